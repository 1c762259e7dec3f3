/- What the functions of this seat come to, in plain Lean, part 1. No condition. -/
import Derived.Test.YtinjfnjhhdjklaaG1
import Derived.IntWalk
import Derived.Test.YtinjfnjhhdjklaaG2
import Derived.KernelRfl
set_option linter.unusedVariables false
set_option linter.unusedSimpArgs false
namespace Go.Eng.He
abbrev gi (l : List Int) (i : Nat) : Int := l.getD i 0
theorem gi_set {l : List Int} {i j : Nat} {v : Int} (hi : i < l.length) : gi (l.set i v) j = if i = j then v else gi l j := by
  simp only [gi, List.getD_eq_getElem?_getD, List.getElem?_set]
  split
  · simp
  · rfl
theorem gi_mem {l : List Int} {i : Nat} (hi : i < l.length) : gi l i ∈ l := by
  simp only [gi, List.getD_eq_getElem?_getD, List.getElem?_eq_getElem hi, Option.getD_some]; exact List.getElem_mem hi
theorem mem_gi {l : List Int} {x : Int} (h : x ∈ l) : ∃ i, i < l.length ∧ gi l i = x := by
  obtain ⟨i, hi, e⟩ := List.getElem_of_mem h
  exact ⟨i, hi, by simp only [gi, List.getD_eq_getElem?_getD, List.getElem?_eq_getElem hi, Option.getD_some]; exact e⟩
def Sd (l at' : List Int) : Prop := ∀ i, i < l.length → 0 ≤ gi l i ∧ (gi l i).toNat < at'.length ∧ gi at' (gi l i).toNat = (i : Int)
theorem Sd.inj {l at' : List Int} (h : Sd l at') {i j : Nat} (hi : i < l.length) (hj : j < l.length) (e : gi l i = gi l j) : i = j := by
  have h1 := (h i hi).2.2; have h2 := (h j hj).2.2
  rw [e] at h1; omega
def swL (l : List Int) (i k : Nat) : List Int := (l.set i (gi l k)).set k (gi l i)
def swA (l at' : List Int) (i k : Nat) : List Int := (at'.set (gi (swL l i k) i).toNat (i : Int)).set (gi (swL l i k) k).toNat (k : Int)
theorem swL_len {l : List Int} {i k : Nat} : (swL l i k).length = l.length := by simp [swL]
theorem swA_len {l at' : List Int} {i k : Nat} : (swA l at' i k).length = at'.length := by simp [swA]
section
variable {l at' : List Int} {i k : Nat} (hi : i < l.length) (hk : k < l.length)
include hi hk
theorem swL_gi (j : Nat) : gi (swL l i k) j = if k = j then gi l i else if i = j then gi l k else gi l j := by
  unfold swL
  rw [gi_set (by rw [List.length_set]; exact hk), gi_set hi]
theorem swL_perm : (swL l i k).Perm l := by
  have := List.set_set_perm hi hk
  unfold swL
  rwa [show gi l k = l[k] from by simp [gi, List.getD_eq_getElem?_getD, hk], show gi l i = l[i] from by simp [gi, List.getD_eq_getElem?_getD, hi]]
theorem sd_swap (h : Sd l at') : Sd (swL l i k) (swA l at' i k) := by
  intro j hj
  rw [swL_len] at hj
  have b1 := h i hi; have b2 := h k hk; have b3 := h j hj
  have e1 : gi (swL l i k) i = gi l k := by rw [swL_gi hi hk]; by_cases h : k = i <;> simp [h]
  have e2 : gi (swL l i k) k = gi l i := by rw [swL_gi hi hk]; simp
  rw [swA_len]
  unfold swA
  rw [e1, e2, gi_set (by rw [List.length_set]; exact b1.2.1), gi_set b2.2.1, swL_gi hi hk]
  by_cases hkj : k = j
  · subst hkj; simp only [if_true]; exact ⟨b1.1, b1.2.1, trivial⟩
  · rw [if_neg hkj]
    by_cases hij : i = j
    · subst hij; simp only [if_true]
      refine ⟨b2.1, b2.2.1, ?_⟩
      rw [if_neg]
      intro e
      exact hkj (h.inj hi hk (by omega)).symm
    · rw [if_neg hij]
      refine ⟨b3.1, b3.2.1, ?_⟩
      rw [if_neg, if_neg]
      · exact b3.2.2
      · intro e; exact hkj (h.inj hk hj (by omega))
      · intro e; exact hij (h.inj hi hj (by omega))
end
structure Ord (ah : Int → Int → Bool) : Prop where
  asym : ∀ x y, ah x y = true → ah y x = false
  neg : ∀ x y z, ah x y = false → ah y z = false → ah x z = false
def okP (ah : Int → Int → Bool) (l : List Int) (j : Nat) : Prop := ah (gi l j) (gi l ((j - 1) / 2)) = false
def Hp (ah : Int → Int → Bool) (l : List Int) : Prop := ∀ j, 0 < j → j < l.length → okP ah l j
def Gp (ah : Int → Int → Bool) (l : List Int) (i : Nat) : Prop := ∀ j, 0 < j → j < l.length → (j - 1) / 2 = i → 0 < i → ah (gi l j) (gi l ((i - 1) / 2)) = false
def ExU (ah : Int → Int → Bool) (l : List Int) (i : Nat) : Prop := (∀ j, 0 < j → j < l.length → j ≠ i → okP ah l j) ∧ Gp ah l i
def ExD (ah : Int → Int → Bool) (l : List Int) (i : Nat) : Prop := (∀ j, 0 < j → j < l.length → (j - 1) / 2 ≠ i → okP ah l j) ∧ Gp ah l i
def ExB (ah : Int → Int → Bool) (l : List Int) (i : Nat) : Prop := (∀ j, 0 < j → j < l.length → j ≠ i → (j - 1) / 2 ≠ i → okP ah l j) ∧ Gp ah l i
section
variable {ah : Int → Int → Bool} {l : List Int}
theorem Hp.exD (ho : Ord ah) (h : Hp ah l) (i : Nat) : ExD ah l i :=
  ⟨fun j h0 h1 _ => h j h0 h1, fun j h0 h1 h2 h3 => ho.neg _ (gi l i) _ (by have := h j h0 h1; unfold okP at this; rwa [h2] at this) (h i h3 (by omega))⟩
theorem Hp.root (ho : Ord ah) (h : Hp ah l) : ∀ j, j < l.length → ah (gi l j) (gi l 0) = false := by
  intro j
  induction j using Nat.strongRecOn with
  | _ j ih =>
    intro hj
    by_cases h0 : j = 0
    · subst h0
      cases e : ah (gi l 0) (gi l 0) with
      | false => rfl
      | true => have := ho.asym _ _ e; rw [e] at this; exact this
    · exact ho.neg _ (gi l ((j - 1) / 2)) _ (h j (by omega) hj) (ih ((j - 1) / 2) (by omega) (by omega))
theorem up_step (ho : Ord ah) {i : Nat} (hi : i < l.length) (h0 : 0 < i) (hb : ExB ah l i) (ha : ah (gi l i) (gi l ((i - 1) / 2)) = true) : ExU ah (swL l i ((i - 1) / 2)) ((i - 1) / 2) := by
  have hp : (i - 1) / 2 < l.length := by omega
  have hne : (i - 1) / 2 ≠ i := by omega
  have ha' := ho.asym _ _ ha
  constructor
  · intro j hj0 hj hjp
    rw [swL_len] at hj
    unfold okP
    rw [swL_gi hi hp, swL_gi hi hp]
    rw [if_neg (Ne.symm hjp)]
    by_cases hji : i = j
    · subst hji; rw [if_pos rfl, if_pos rfl]; exact ha'
    · rw [if_neg hji]
      by_cases hq : (i - 1) / 2 = (j - 1) / 2
      · rw [if_pos hq]
        have h1 := hb.1 j hj0 hj (Ne.symm hji) (by omega)
        unfold okP at h1; rw [← hq] at h1
        exact ho.neg _ _ _ h1 ha'
      · rw [if_neg hq]
        by_cases hc : i = (j - 1) / 2
        · rw [if_pos hc]; exact hb.2 j hj0 hj hc.symm h0
        · rw [if_neg hc]; exact hb.1 j hj0 hj (Ne.symm hji) (Ne.symm hc)
  · intro j hj0 hj hjp hp0
    rw [swL_len] at hj
    rw [swL_gi hi hp, swL_gi hi hp, if_neg (by omega), if_neg (show ¬ (i - 1) / 2 = ((i - 1) / 2 - 1) / 2 by omega), if_neg (show ¬ i = ((i - 1) / 2 - 1) / 2 by omega)]
    have hpp := hb.1 ((i - 1) / 2) hp0 hp (by omega) (by omega)
    by_cases hji : i = j
    · rw [if_pos hji]; exact hpp
    · rw [if_neg hji]
      have h1 := hb.1 j hj0 hj (Ne.symm hji) (by omega)
      unfold okP at h1; rw [hjp] at h1
      exact ho.neg _ _ _ h1 hpp
theorem ExU.exB {i : Nat} (h : ExU ah l i) : ExB ah l i := ⟨fun j h0 h1 h2 _ => h.1 j h0 h1 h2, h.2⟩
theorem ExB.stop {i : Nat} (h : ExB ah l i) (hs : 0 < i → okP ah l i) : ExD ah l i :=
  ⟨fun j h0 h1 h2 => if e : j = i then e ▸ hs (e ▸ h0) else h.1 j h0 h1 e h2, h.2⟩
theorem ExU.stop {i : Nat} (h : ExU ah l i) (hs : 0 < i → okP ah l i) : Hp ah l :=
  fun j h0 h1 => if e : j = i then e ▸ hs (e ▸ h0) else h.1 j h0 h1 e
theorem down_step (ho : Ord ah) {i k : Nat} (hk : k < l.length) (h0 : 0 < k) (hki : (k - 1) / 2 = i) (hd : ExD ah l i) (hm : ∀ j, 0 < j → j < l.length → (j - 1) / 2 = i → ah (gi l j) (gi l k) = false)
    (ha : ah (gi l k) (gi l i) = true) : ExD ah (swL l i k) k := by
  have hi : i < l.length := by omega
  have ha' := ho.asym _ _ ha
  constructor
  · intro j hj0 hj hjp
    rw [swL_len] at hj
    unfold okP
    rw [swL_gi hi hk, swL_gi hi hk, if_neg (show ¬ k = (j - 1) / 2 from Ne.symm hjp)]
    by_cases hjk : k = j
    · subst hjk; rw [if_pos rfl, if_pos hki.symm]; exact ha'
    · rw [if_neg hjk]
      by_cases hji : i = j
      · subst hji
        rw [if_pos rfl, if_neg (by omega)]
        exact hd.2 k h0 hk hki hj0
      · rw [if_neg hji]
        by_cases hq : i = (j - 1) / 2
        · rw [if_pos hq]; exact hm j hj0 hj hq.symm
        · rw [if_neg hq]; exact hd.1 j hj0 hj (Ne.symm hq)
  · intro j hj0 hj hjp hk0
    rw [swL_len] at hj
    rw [swL_gi hi hk, swL_gi hi hk, if_neg (by omega), if_neg (by omega), if_neg (by omega), if_pos hki.symm]
    have h1 := hd.1 j hj0 hj (by omega)
    unfold okP at h1; rwa [hjp] at h1
theorem ExD.stop {i : Nat} (h : ExD ah l i) (hs : ∀ j, 0 < j → j < l.length → (j - 1) / 2 = i → okP ah l j) : Hp ah l :=
  fun j h0 h1 => if e : (j - 1) / 2 = i then hs j h0 h1 e else h.1 j h0 h1 e
theorem out_exB (ho : Ord ah) (h : Hp ah l) {i : Nat} (hi : i + 1 < l.length) : ExB ah ((swL l i (l.length - 1)).take (l.length - 1)) i := by
  have hl : l.length - 1 < l.length := by omega
  have hi' : i < l.length := by omega
  have hg : ∀ j, j < l.length - 1 → gi ((swL l i (l.length - 1)).take (l.length - 1)) j = if i = j then gi l (l.length - 1) else gi l j := by
    intro j hj
    rw [show gi ((swL l i (l.length - 1)).take (l.length - 1)) j = gi (swL l i (l.length - 1)) j from by simp only [gi, List.getD_eq_getElem?_getD]; rw [List.getElem?_take_of_lt hj], swL_gi hi' hl, if_neg (by omega)]
  have hlen : ((swL l i (l.length - 1)).take (l.length - 1)).length = l.length - 1 := by rw [List.length_take, swL_len]; omega
  constructor
  · intro j hj0 hj h1 h2
    rw [hlen] at hj
    unfold okP
    rw [hg j hj, hg _ (by omega), if_neg (Ne.symm h1), if_neg (Ne.symm h2)]
    exact h j hj0 (by omega)
  · intro j hj0 hj h1 h2
    rw [hlen] at hj
    rw [hg j hj, hg _ (by omega), if_neg (by omega), if_neg (by omega)]
    exact (h.exD ho i).2 j hj0 (by omega) h1 h2
theorem Hp.take (h : Hp ah l) (n : Nat) : Hp ah (l.take n) := by
  intro j h0 h1
  rw [List.length_take] at h1
  have hg : ∀ j, j < n → gi (l.take n) j = gi l j := fun j hj => by simp only [gi, List.getD_eq_getElem?_getD]; rw [List.getElem?_take_of_lt hj]
  unfold okP
  rw [hg _ (by omega), hg _ (by omega)]
  exact h j h0 (by omega)
theorem gi_app {l : List Int} {n : Int} {j : Nat} (hj : j < l.length) : gi (l ++ [n]) j = gi l j := by simp only [gi, List.getD_eq_getElem?_getD]; rw [List.getElem?_append_left hj]
theorem gi_last {l : List Int} {n : Int} : gi (l ++ [n]) l.length = n := by simp [gi, List.getD_eq_getElem?_getD]
theorem put_exU (h : Hp ah l) (n : Int) : ExU ah (l ++ [n]) l.length := by
  constructor
  · intro j h0 h1 h2
    rw [List.length_append, List.length_singleton] at h1
    unfold okP
    rw [gi_app (by omega), gi_app (by omega)]
    exact h j h0 (by omega)
  · intro j h0 h1 h2 h3
    rw [List.length_append, List.length_singleton] at h1
    omega
end
theorem sd_take {l at' : List Int} (h : Sd l at') (n : Nat) : Sd (l.take n) at' := by
  intro i hi
  rw [List.length_take] at hi
  rw [show gi (l.take n) i = gi l i from by simp only [gi, List.getD_eq_getElem?_getD]; rw [List.getElem?_take_of_lt (by omega)]]
  exact h i (by omega)
theorem sd_put {l at' : List Int} (h : Sd l at') {n : Nat} (hn : n < at'.length) (hm : (n : Int) ∉ l) : Sd (l ++ [(n : Int)]) (at'.set n l.length) := by
  intro i hi
  rw [List.length_append, List.length_singleton] at hi
  rw [List.length_set]
  by_cases e : i = l.length
  · subst e
    rw [gi_last]
    exact ⟨by omega, by simpa using hn, by rw [Int.toNat_natCast, gi_set hn, if_pos rfl]⟩
  · have hi' : i < l.length := by omega
    rw [gi_app hi']
    have := h i hi'
    refine ⟨this.1, this.2.1, ?_⟩
    rw [gi_set hn, if_neg, this.2.2]
    intro e'
    exact hm (by rw [show (n : Int) = gi l i by omega]; exact gi_mem hi')
theorem sd_grow {l at' : List Int} (h : Sd l at') (m : List Int) : Sd l (at' ++ m) := by
  intro i hi
  obtain ⟨h1, h2, h3⟩ := h i hi
  refine ⟨h1, by rw [List.length_append]; omega, ?_⟩
  rw [← h3]
  generalize (gi l i).toNat = v at h2
  simp only [gi, List.getD_eq_getElem?_getD]; rw [List.getElem?_append_left h2]
theorem take_perm {l : List Int} {n : Int} {m : Nat} (h : l.length = m + 1) (hn : gi l m = n) : l.Perm (n :: l.take m) := by
  have : l = l.take m ++ [n] := by
    rw [← hn]
    apply List.ext_getElem?
    intro j
    by_cases hj : j < m
    · rw [List.getElem?_append_left (by rw [List.length_take]; omega), List.getElem?_take_of_lt hj]
    · rw [List.getElem?_append_right (by rw [List.length_take]; omega), List.length_take, show min m l.length = m by omega]
      by_cases e : j = m
      · subst e; simp [gi, List.getD_eq_getElem?_getD, show j < l.length by omega]
      · rw [List.getElem?_eq_none (by omega), List.getElem?_eq_none (by simp; omega)]
  have e2 := List.perm_append_singleton n (l.take m)
  rw [← this] at e2
  exact e2
theorem nodup_of {l at' : List Int} (h : Sd l at') : l.Nodup := by
  rw [List.nodup_iff_pairwise_ne, List.pairwise_iff_getElem]
  intro i j hi hj hij e
  have : i = j := h.inj hi hj (by simp only [gi, List.getD_eq_getElem?_getD]; rw [List.getElem?_eq_getElem hi, List.getElem?_eq_getElem hj, e])
  omega
end Go.Eng.He

set_option linter.unusedVariables false
namespace Go.Eng.He
open Go Go.Eng Go.Proofs
theorem wi {n : Int} (h0 : -9223372036854775808 ≤ n) (h : n ≤ 9223372036854775807) : IntKind.wrap IntKind.i64 n = n := by rw [IntKind.wrap_i64]; omega
theorem inR {x : Int} {n : Nat} (h : 0 ≤ x ∧ x.toNat < n) : (0 : Int) ≤ x ∧ x < (n : Int) := by omega
theorem inN {i n : Nat} (h : i < n) : (0 : Int) ≤ (i : Int) ∧ (i : Int) < (n : Int) := by omega
theorem bind_of {α β : Type} {o : Option α} {v : α} {f : α → Option β} {r : Option β} (h : o = some v) (h2 : f v = r) : Option.bind o f = r := by rw [h]; exact h2
abbrev Ent := Int × Int × Int × Int
def btr (a b : Ent) : Bool := if a.1 = b.1 then if a.2.1 = b.2.1 then decide (b.2.2.2 < a.2.2.2) else decide (b.2.1 < a.2.1) else decide (b.1 < a.1)
theorem btr_asym (a b : Ent) (h : btr a b = true) : btr b a = false := by
  unfold btr at *
  repeat' split at h
  all_goals simp only [decide_eq_true_eq] at h
  all_goals repeat' split
  all_goals simp only [decide_eq_false_iff_not]
  all_goals omega
theorem btr_neg (a b c : Ent) (h : btr a b = false) (h2 : btr b c = false) : btr a c = false := by
  unfold btr at *
  repeat' split at h
  all_goals simp only [decide_eq_false_iff_not] at h
  all_goals repeat' split at h2
  all_goals simp only [decide_eq_false_iff_not] at h2
  all_goals repeat' split
  all_goals simp only [decide_eq_false_iff_not]
  all_goals omega
def en (all : List Ent) (x : Int) : Ent := all.getD x.toNat (0, 0, 0, 0)
def ahb (all : List Ent) (x y : Int) : Bool := btr (en all x) (en all y)
def ahw (all : List Ent) (x y : Int) : Bool := btr (en all y) (en all x)
theorem ord_b (all : List Ent) : Ord (ahb all) := ⟨fun _ _ h => btr_asym _ _ h, fun _ _ _ h h2 => btr_neg _ _ _ h h2⟩
theorem ord_w (all : List Ent) : Ord (ahw all) := ⟨fun _ _ h => btr_asym _ _ h, fun _ _ _ h h2 => btr_neg _ _ _ h2 h⟩
theorem f23_ok (a1 a2 a3 a4 b1 b2 b3 b4 : Int) : F23 ((a1, a2, a3, a4, ()), (b1, b2, b3, b4, ()), ()) () = some (btr (a1, a2, a3, a4) (b1, b2, b3, b4), ()) := by
  rw [F23]; unfold btr
  by_cases h1 : a1 = b1
  · by_cases h2 : a2 = b2 <;> simp [h1, h2]
  · simp [h1]
abbrev RO (m t mk : Int) (md : Bool) (all : List Ent) : OPL.T os22 := (((), ()), (m, (), (), (), (), t, mk, md, ()), all, (), (), (), (), (), (), (), ())
abbrev SP (m t mk : Int) (md : Bool) (all : List Ent) (fr ol oa l at' : List Int) : OPL.T os27b_0 := ((((), ()), (), (), ()), ((), ()), (m, (), (), (), (), t, mk, md, ()), (), (), (((), ()), (), (), ()), (), (), (), (), l, at', all, fr, ol, oa, ())
abbrev SS (m t mk : Int) (md : Bool) (all : List Ent) (fr ol oa l at' : List Int) : OPL.T os45b := ((((), ()), (), (), ()), ((), ()), (m, (), (), (), (), t, mk, md, ()), all, fr, (((), ()), (), (), ()), ol, oa, l, at', ())
def Bd (all : List Ent) (l : List Int) : Prop := ∀ x ∈ l, 0 ≤ x ∧ x.toNat < all.length
theorem Bd.perm {all : List Ent} {l l' : List Int} (h : Bd all l) (p : l'.Perm l) : Bd all l' := fun x hx => h x (p.mem_iff.1 hx)
theorem tdiv2 {i : Nat} (h : 0 < i) (hi : i < 4611686018427387904) : IntKind.wrap IntKind.i64 (Int.tdiv (IntKind.wrap IntKind.i64 ((i : Int) - (1 : Int))) (2 : Int)) = (((i - 1) / 2 : Nat) : Int) := by
  rw [wi (n := (i : Int) - 1) (by omega) (by omega), Int.tdiv_eq_ediv_of_nonneg (by omega), wi (by omega) (by omega)]; omega
theorem dbl1 {i : Nat} (hi : i < 2305843009213693952) : IntKind.wrap IntKind.i64 (IntKind.wrap IntKind.i64 ((2 : Int) * (i : Int)) + (1 : Int)) = ((2 * i + 1 : Nat) : Int) := by
  rw [wi (n := 2 * (i : Int)) (by omega) (by omega), wi (by omega) (by omega)]; omega
theorem add1 {i : Nat} (hi : i < 4611686018427387904) : IntKind.wrap IntKind.i64 ((i : Int) + (1 : Int)) = ((i + 1 : Nat) : Int) := by
  rw [wi (by omega) (by omega)]; omega
theorem ahead_b {m t mk : Int} {md : Bool} {all : List Ent} {x y : Int} (hx : 0 ≤ x ∧ x.toNat < all.length) (hy : 0 ≤ y ∧ y.toNat < all.length) : F22 (x, y, (), ()) (RO m t mk md all) = some (ahb all x y, RO m t mk md all) := by
  rw [F22]
  refine (if_pos (inR hx)).trans ((if_pos hx.2).trans ((if_pos (inR hy)).trans ((if_pos hy.2).trans ?_)))
  refine bind_of (f23_ok _ _ _ _ _ _ _ _) ?_
  rfl
theorem swap_b {m t mk : Int} {md : Bool} {all : List Ent} {fr ol oa l at' : List Int} {i k : Nat} (hi : i < l.length) (hk : k < l.length) (h : Sd l at') :
    F45b ((), (i : Int), (k : Int), ()) (SS m t mk md all fr ol oa l at') = some ((), SS m t mk md all fr ol oa (swL l i k) (swA l at' i k)) := by
  rw [F45b]
  simp only [Int.toNat_natCast]
  have e : List.set (List.set l i (List.getD l k 0)) k (List.getD l i 0) = swL l i k := rfl
  simp only [e, List.length_set, swL_len]
  have b1 := sd_swap hi hk h i (by rw [swL_len]; exact hi)
  have b2 := sd_swap hi hk h k (by rw [swL_len]; exact hk)
  rw [swA_len] at b1 b2
  refine (if_pos (inN hk)).trans ((if_pos hk).trans ((if_pos (inN hi)).trans ((if_pos hi).trans ?_)))
  refine (if_pos (inN hi)).trans ((if_pos hi).trans ((if_pos (inN hk)).trans ((if_pos hk).trans ?_)))
  refine (if_pos (inN hi)).trans ((if_pos hi).trans ((if_pos (inN hk)).trans ((if_pos hk).trans ?_)))
  refine (if_pos (inR ⟨b1.1, b1.2.1⟩)).trans ((if_pos b1.2.1).trans ((if_pos (inR ⟨b2.1, b2.2.1⟩)).trans ((if_pos b2.2.1).trans ?_)))
  rfl
theorem upl_b {m t mk : Int} {md : Bool} {all : List Ent} {fr ol oa : List Int} : ∀ (k i : Nat) (l at' : List Int), i < k → i < l.length → l.length < 1152921504606846976 → Sd l at' → Bd all l →
    ∃ l' at2, L41b_0 k ((), (i : Int), ()) (SS m t mk md all fr ol oa l at') = some ((), SS m t mk md all fr ol oa l' at2) ∧ l'.Perm l ∧ at2.length = at'.length ∧ Sd l' at2 ∧
      (ExU (ahb all) l i → Hp (ahb all) l') ∧ (ExB (ahb all) l i → ExD (ahb all) l' i)
  | 0, i, l, at', h, _, _, _, _ => by omega
  | k + 1, i, l, at', hk, hi, hl, hs, hb => by
    by_cases h0 : i = 0
    · subst h0
      refine ⟨l, at', ?_, List.Perm.refl _, rfl, hs, fun h => h.stop fun h => absurd h (by omega), fun h => h.stop fun h => absurd h (by omega)⟩
      rw [L41b_0]; exact if_neg (by decide)
    · have h0 : 0 < i := by omega
      have hp : (i - 1) / 2 < l.length := by omega
      have hw := tdiv2 h0 (by omega)
      have hx := hb _ (gi_mem hi); have hy := hb _ (gi_mem hp)
      cases ha : ahb all (gi l i) (gi l ((i - 1) / 2)) with
      | false =>
        refine ⟨l, at', ?_, List.Perm.refl _, rfl, hs, fun h => h.stop fun _ => ha, fun h => h.stop fun _ => ha⟩
        rw [L41b_0]
        refine (if_pos (by rw [decide_eq_true_eq]; omega)).trans ?_
        simp only [hw, Int.toNat_natCast]
        refine (if_pos (inN hi)).trans ((if_pos hi).trans ((if_pos (inN hp)).trans ((if_pos hp).trans ?_)))
        refine bind_of (ahead_b hx hy) ?_
        dsimp only
        exact if_neg (by rw [ha]; decide)
      | true =>
        obtain ⟨l', at2, e, p, hn, hs', c1, c2⟩ := upl_b k ((i - 1) / 2) (swL l i ((i - 1) / 2)) (swA l at' i ((i - 1) / 2)) (by omega) (by rw [swL_len]; exact hp) (by rw [swL_len]; exact hl) (sd_swap hi hp hs) (hb.perm (swL_perm hi hp))
        refine ⟨l', at2, ?_, p.trans (swL_perm hi hp), by rw [hn, swA_len], hs', fun h => c1 (up_step (ord_b all) hi h0 h.exB ha), fun h => (c1 (up_step (ord_b all) hi h0 h ha)).exD (ord_b all) i⟩
        rw [L41b_0]
        refine (if_pos (by rw [decide_eq_true_eq]; omega)).trans ?_
        simp only [hw, Int.toNat_natCast]
        refine (if_pos (inN hi)).trans ((if_pos hi).trans ((if_pos (inN hp)).trans ((if_pos hp).trans ?_)))
        refine bind_of (ahead_b hx hy) ?_
        dsimp only
        refine (if_pos ha).trans ?_
        refine bind_of (swap_b hi hp hs) ?_
        exact e
theorem up_b {m t mk : Int} {md : Bool} {all : List Ent} {fr ol oa : List Int} {k i : Nat} {l at' : List Int} (hk : i < k) (hi : i < l.length) (hl : l.length < 1152921504606846976) (hs : Sd l at') (hb : Bd all l) :
    ∃ l' at2, F41b k ((), (i : Int), ()) (SS m t mk md all fr ol oa l at') = some ((), SS m t mk md all fr ol oa l' at2) ∧ l'.Perm l ∧ at2.length = at'.length ∧ Sd l' at2 ∧
      (ExU (ahb all) l i → Hp (ahb all) l') ∧ (ExB (ahb all) l i → ExD (ahb all) l' i) := by
  obtain ⟨l', at2, e, h⟩ := upl_b (m := m) (t := t) (mk := mk) (md := md) (fr := fr) (ol := ol) (oa := oa) k i l at' hk hi hl hs hb
  exact ⟨l', at2, by rw [F41b]; exact e, h⟩
theorem downl_b {m t mk : Int} {md : Bool} {all : List Ent} {fr ol oa : List Int} : ∀ (k i : Nat) (l at' : List Int), l.length < k + i → i < l.length → l.length < 1152921504606846976 → Sd l at' → Bd all l → ExD (ahb all) l i →
    ∃ l' at2, L46b_0 k ((), (i : Int), ()) (SS m t mk md all fr ol oa l at') = some ((), SS m t mk md all fr ol oa l' at2) ∧ l'.Perm l ∧ at2.length = at'.length ∧ Sd l' at2 ∧ Hp (ahb all) l'
  | 0, i, l, at', h, h2, _, _, _, _ => by omega
  | k + 1, i, l, at', hk, hi, hl, hs, hb, hd => by
    have hx := hb _ (gi_mem hi)
    have e1 := dbl1 (i := i) (by omega)
    have e2 : IntKind.wrap IntKind.i64 (((2 * i + 1 : Nat) : Int) + (1 : Int)) = ((2 * i + 1 + 1 : Nat) : Int) := add1 (by omega)
    have fin : ∀ c, 0 < c → (c - 1) / 2 = i → c < l.length → (∀ j, 0 < j → j < l.length → (j - 1) / 2 = i → ahb all (gi l j) (gi l c) = false) →
        ∃ l' at2, (ahb all (gi l c) (gi l i) = false ∧ l' = l ∧ at2 = at' ∨ ahb all (gi l c) (gi l i) = true ∧ L46b_0 k ((), (c : Int), ()) (SS m t mk md all fr ol oa (swL l i c) (swA l at' i c)) = some ((), SS m t mk md all fr ol oa l' at2)) ∧
          l'.Perm l ∧ at2.length = at'.length ∧ Sd l' at2 ∧ Hp (ahb all) l' := by
      intro c h0 hc hcl hm
      cases ha : ahb all (gi l c) (gi l i) with
      | false => exact ⟨l, at', .inl ⟨rfl, rfl, rfl⟩, List.Perm.refl _, rfl, hs, hd.stop fun j j0 j1 j2 => by unfold okP; rw [j2]; exact (ord_b all).neg _ _ _ (hm j j0 j1 j2) ha⟩
      | true =>
        obtain ⟨l', at2, e, p, hn, hs', c1⟩ := downl_b k c (swL l i c) (swA l at' i c) (by rw [swL_len]; omega) (by rw [swL_len]; exact hcl) (by rw [swL_len]; exact hl) (sd_swap hi hcl hs) (hb.perm (swL_perm hi hcl)) (down_step (ord_b all) hcl h0 hc hd hm ha)
        exact ⟨l', at2, .inr ⟨rfl, e⟩, p.trans (swL_perm hi hcl), by rw [hn, swA_len], hs', c1⟩
    by_cases hA : l.length ≤ 2 * i + 1
    · refine ⟨l, at', ?_, List.Perm.refl _, rfl, hs, hd.stop fun j j0 j1 j2 => by omega⟩
      rw [L46b_0]
      simp only [e1]
      exact if_pos (by rw [decide_eq_true_eq]; exact Int.ofNat_le.2 hA)
    have hc1 : 2 * i + 1 < l.length := by omega
    have hy := hb _ (gi_mem hc1)
    by_cases hB : 2 * i + 1 + 1 < l.length
    · have hz := hb _ (gi_mem hB)
      cases hb2 : ahb all (gi l (2 * i + 1 + 1)) (gi l (2 * i + 1)) with
      | true =>
        obtain ⟨l', at2, hor, post⟩ := fin (2 * i + 1 + 1) (by omega) (by omega) hB fun j j0 j1 j2 => by
          by_cases e : j = 2 * i + 1 + 1
          · subst e; cases e3 : ahb all (gi l (2 * i + 1 + 1)) (gi l (2 * i + 1 + 1)) with
            | false => rfl
            | true => have := (ord_b all).asym _ _ e3; rw [e3] at this; exact this
          · have : j = 2 * i + 1 := by omega
            subst this; exact (ord_b all).asym _ _ hb2
        refine ⟨l', at2, ?_, post⟩
        rw [L46b_0]
        simp only [e1, e2, Int.toNat_natCast]
        refine (if_neg (by rw [decide_eq_true_eq]; exact fun h => hA (Int.ofNat_le.1 h))).trans ((if_pos (by rw [decide_eq_true_eq]; exact Int.ofNat_lt.2 hB)).trans ?_)
        refine (if_pos (inN hB)).trans ((if_pos hB).trans ((if_pos (inN hc1)).trans ((if_pos hc1).trans ?_)))
        refine bind_of (ahead_b hz hy) ?_
        dsimp only
        refine (if_pos hb2).trans ((if_pos (inN hB)).trans ((if_pos hB).trans ((if_pos (inN hi)).trans ((if_pos hi).trans ?_))))
        refine bind_of (ahead_b hz hx) ?_
        dsimp only
        rcases hor with ⟨ha, rfl, rfl⟩ | ⟨ha, e⟩
        · exact if_pos (by rw [ha]; rfl)
        · refine (if_neg (by rw [ha]; decide)).trans ?_
          refine bind_of (swap_b hi hB hs) ?_
          exact e
      | false =>
        obtain ⟨l', at2, hor, post⟩ := fin (2 * i + 1) (by omega) (by omega) hc1 fun j j0 j1 j2 => by
          by_cases e : j = 2 * i + 1
          · subst e; cases e3 : ahb all (gi l (2 * i + 1)) (gi l (2 * i + 1)) with
            | false => rfl
            | true => have := (ord_b all).asym _ _ e3; rw [e3] at this; exact this
          · have : j = 2 * i + 1 + 1 := by omega
            subst this; exact hb2
        refine ⟨l', at2, ?_, post⟩
        rw [L46b_0]
        simp only [e1, e2, Int.toNat_natCast]
        refine (if_neg (by rw [decide_eq_true_eq]; exact fun h => hA (Int.ofNat_le.1 h))).trans ((if_pos (by rw [decide_eq_true_eq]; exact Int.ofNat_lt.2 hB)).trans ?_)
        refine (if_pos (inN hB)).trans ((if_pos hB).trans ((if_pos (inN hc1)).trans ((if_pos hc1).trans ?_)))
        refine bind_of (ahead_b hz hy) ?_
        dsimp only
        refine (if_neg (by rw [hb2]; decide)).trans ((if_pos (inN hc1)).trans ((if_pos hc1).trans ((if_pos (inN hi)).trans ((if_pos hi).trans ?_))))
        refine bind_of (ahead_b hy hx) ?_
        dsimp only
        rcases hor with ⟨ha, rfl, rfl⟩ | ⟨ha, e⟩
        · exact if_pos (by rw [ha]; rfl)
        · refine (if_neg (by rw [ha]; decide)).trans ?_
          refine bind_of (swap_b hi hc1 hs) ?_
          exact e
    · obtain ⟨l', at2, hor, post⟩ := fin (2 * i + 1) (by omega) (by omega) hc1 fun j j0 j1 j2 => by
        have : j = 2 * i + 1 := by omega
        subst this; cases e3 : ahb all (gi l (2 * i + 1)) (gi l (2 * i + 1)) with
        | false => rfl
        | true => have := (ord_b all).asym _ _ e3; rw [e3] at this; exact this
      refine ⟨l', at2, ?_, post⟩
      rw [L46b_0]
      simp only [e1, e2, Int.toNat_natCast]
      refine (if_neg (by rw [decide_eq_true_eq]; exact fun h => hA (Int.ofNat_le.1 h))).trans ((if_neg (by rw [decide_eq_true_eq]; exact fun h => hB (Int.ofNat_lt.1 h))).trans ?_)
      refine (if_pos (inN hc1)).trans ((if_pos hc1).trans ((if_pos (inN hi)).trans ((if_pos hi).trans ?_)))
      refine bind_of (ahead_b hy hx) ?_
      dsimp only
      rcases hor with ⟨ha, rfl, rfl⟩ | ⟨ha, e⟩
      · exact if_pos (by rw [ha]; rfl)
      · refine (if_neg (by rw [ha]; decide)).trans ?_
        refine bind_of (swap_b hi hc1 hs) ?_
        exact e
theorem down_b {m t mk : Int} {md : Bool} {all : List Ent} {fr ol oa : List Int} {k i : Nat} {l at' : List Int} (hk : l.length < k + i) (hi : i < l.length) (hl : l.length < 1152921504606846976) (hs : Sd l at') (hb : Bd all l) (hd : ExD (ahb all) l i) :
    ∃ l' at2, F46b k ((), (i : Int), ()) (SS m t mk md all fr ol oa l at') = some ((), SS m t mk md all fr ol oa l' at2) ∧ l'.Perm l ∧ at2.length = at'.length ∧ Sd l' at2 ∧ Hp (ahb all) l' := by
  obtain ⟨l', at2, e, h⟩ := downl_b (m := m) (t := t) (mk := mk) (md := md) (fr := fr) (ol := ol) (oa := oa) k i l at' hk hi hl hs hb hd
  exact ⟨l', at2, by rw [F46b]; exact e, h⟩
theorem putl_b {m t mk : Int} {md : Bool} {all : List Ent} {fr ol oa : List Int} {K n : Nat} {l : List Int} (hK : l.length < K) (hl : l.length < 1000000000000) (hn : n < 1000000000000) (hb : Bd all l) (hna : n < all.length) (hm : (n : Int) ∉ l) (hh : Hp (ahb all) l) : ∀ (k : Nat) (at' : List Int), n + 1 < k + at'.length ∧ 0 < k → at'.length ≤ 1000000000000 → Sd l at' →
    ∃ l' at2, L27b_0 K k ((), (n : Int), ()) (SP m t mk md all fr ol oa l at') = some ((), SP m t mk md all fr ol oa l' at2) ∧ l'.Perm ((n : Int) :: l) ∧ at2.length = max at'.length (n + 1) ∧ Sd l' at2 ∧ Hp (ahb all) l'
  | 0, at', h, h2, hs => by omega
  | k + 1, at', h, h2, hs => by
    by_cases hg : at'.length ≤ n
    · obtain ⟨l', at2, e, p, hlen, r⟩ := putl_b hK hl hn hb hna hm hh k (at' ++ [0]) (by simp; omega) (by simp; omega) (sd_grow hs [0])
      refine ⟨l', at2, ?_, p, by rw [hlen]; simp; omega, r⟩
      rw [L27b_0]
      exact (if_pos (by rw [decide_eq_true_eq]; exact Int.ofNat_le.2 hg)).trans ((if_pos (by omega)).trans e)
    · have hn' : n < at'.length := by omega
      have hs' := sd_put hs hn' hm
      obtain ⟨l', at2, e, p, hlen, hs2, c1, _⟩ := up_b (m := m) (t := t) (mk := mk) (md := md) (fr := fr) (ol := ol) (oa := oa) (all := all) (k := K) (i := l.length) (l := l ++ [(n : Int)]) hK (by simp) (by simp; omega) hs'
        (fun x hx => (List.mem_append.1 hx).elim (fun h => hb x h) (fun h => by rw [List.mem_singleton.1 h]; omega))
      refine ⟨l', at2, ?_, p.trans (List.perm_append_singleton _ _), by rw [hlen, List.length_set]; omega, hs2, c1 (put_exU hh _)⟩
      rw [L27b_0]
      simp only [Int.toNat_natCast, List.length_set]
      have eg : List.getD (List.set at' n (l.length : Int)) n 0 = (l.length : Int) := by rw [show List.getD (List.set at' n (l.length : Int)) n 0 = gi (List.set at' n (l.length : Int)) n from rfl, gi_set hn', if_pos rfl]
      refine (if_neg (by rw [decide_eq_true_eq]; exact fun h => hg (Int.ofNat_le.1 h))).trans ((if_pos (inN hn')).trans ((if_pos hn').trans ((if_pos (by omega)).trans ((if_pos (inN hn')).trans ((if_pos hn').trans ?_)))))
      rw [eg]
      refine bind_of e ?_
      rfl
theorem put_b {m t mk : Int} {md : Bool} {all : List Ent} {fr ol oa : List Int} {K n : Nat} {l at' : List Int} (hK : l.length < K) (hKn : n + 1 < K) (hl : l.length < 1000000000000) (hn : n < 1000000000000) (hb : Bd all l) (hna : n < all.length) (hm : (n : Int) ∉ l) (hh : Hp (ahb all) l) (ha : at'.length ≤ 1000000000000) (hs : Sd l at') :
    ∃ l' at2, F27b K ((), (n : Int), ()) (SS m t mk md all fr ol oa l at') = some ((), SP m t mk md all fr ol oa l' at2) ∧ l'.Perm ((n : Int) :: l) ∧ at2.length = max at'.length (n + 1) ∧ Sd l' at2 ∧ Hp (ahb all) l' := by
  obtain ⟨l', at2, e, h⟩ := putl_b (m := m) (t := t) (mk := mk) (md := md) (fr := fr) (ol := ol) (oa := oa) hK hl hn hb hna hm hh K at' (by omega) ha hs
  exact ⟨l', at2, by rw [F27b]; exact e, h⟩
theorem out_b {m t mk : Int} {md : Bool} {all : List Ent} {fr ol oa : List Int} {K : Nat} {n : Int} {l at' : List Int} (hK : l.length < K) (hl : l.length < 1000000000000) (hb : Bd all l) (hm : n ∈ l) (hh : Hp (ahb all) l) (hs : Sd l at') :
    ∃ l' at2, F42b K ((), n, ()) (SS m t mk md all fr ol oa l at') = some ((), SP m t mk md all fr ol oa l' at2) ∧ l.Perm (n :: l') ∧ at2.length = at'.length ∧ Sd l' at2 ∧ Hp (ahb all) l' := by
  obtain ⟨i, hi, rfl⟩ := mem_gi hm
  obtain ⟨d0, d1, d2⟩ := hs i hi
  have hlast : l.length - 1 < l.length := by omega
  have ew : IntKind.wrap IntKind.i64 ((l.length : Int) - (1 : Int)) = ((l.length - 1 : Nat) : Int) := by rw [wi (by omega) (by omega)]; omega
  have hsw := sd_swap hi hlast hs
  have hp1 : (swL l i (l.length - 1)).Perm (gi l i :: (swL l i (l.length - 1)).take (l.length - 1)) := take_perm (by rw [swL_len]; omega) (by rw [swL_gi hi hlast, if_pos rfl])
  have hlen : ((swL l i (l.length - 1)).take (l.length - 1)).length = l.length - 1 := by rw [List.length_take, swL_len]; omega
  have hs2 := sd_take hsw (l.length - 1)
  have hb2 : Bd all ((swL l i (l.length - 1)).take (l.length - 1)) := fun x hx => hb.perm (swL_perm hi hlast) x (List.mem_of_mem_take hx)
  have hpl : l.Perm (gi l i :: (swL l i (l.length - 1)).take (l.length - 1)) := (swL_perm hi hlast).symm.trans hp1
  by_cases hil : i < l.length - 1
  · obtain ⟨l1, at1, e1, p1, n1, s1, _, c1⟩ := up_b (m := m) (t := t) (mk := mk) (md := md) (fr := fr) (ol := ol) (oa := oa) (all := all) (k := K) (i := i) (by omega) (by rw [hlen]; exact hil) (by omega) hs2 hb2
    have hd := c1 (out_exB (ord_b all) hh (by omega))
    have hl1 : l1.length = l.length - 1 := by rw [p1.length_eq, hlen]
    obtain ⟨l2, at2, e2, p2, n2, s2, c2⟩ := down_b (m := m) (t := t) (mk := mk) (md := md) (fr := fr) (ol := ol) (oa := oa) (all := all) (k := K) (i := i) (by omega) (by omega) (by omega) s1 (hb2.perm p1) hd
    refine ⟨l2, at2, ?_, hpl.trans ((p2.trans p1).symm.cons _), by rw [n2, n1, swA_len], s2, c2⟩
    rw [F42b]
    refine (if_pos (inR ⟨d0, d1⟩)).trans ((if_pos d1).trans ?_)
    simp only [ew]
    rw [show List.getD at' (gi l i).toNat 0 = (i : Int) from d2]
    refine bind_of (swap_b hi hlast hs) ?_
    dsimp only
    simp only [Int.toNat_natCast, Nat.sub_zero, List.drop_zero]
    refine (if_pos (show (0 : Int) ≤ ((l.length - 1 : Nat) : Int) ∧ ((l.length - 1 : Nat) : Int) ≤ ((swL l i (l.length - 1)).length : Int) from by rw [swL_len]; omega)).trans ((if_pos (by rw [decide_eq_true_eq]; exact Int.ofNat_lt.2 hil)).trans ?_)
    refine bind_of e1 ?_
    refine bind_of e2 ?_
    rfl
  · have hie : i = l.length - 1 := by omega
    refine ⟨(swL l i (l.length - 1)).take (l.length - 1), swA l at' i (l.length - 1), ?_, hpl, by rw [swA_len], hs2, ?_⟩
    · rw [F42b]
      refine (if_pos (inR ⟨d0, d1⟩)).trans ((if_pos d1).trans ?_)
      simp only [ew]
      rw [show List.getD at' (gi l i).toNat 0 = (i : Int) from d2]
      refine bind_of (swap_b hi hlast hs) ?_
      dsimp only
      simp only [Int.toNat_natCast, Nat.sub_zero, List.drop_zero]
      refine (if_pos (show (0 : Int) ≤ ((l.length - 1 : Nat) : Int) ∧ ((l.length - 1 : Nat) : Int) ≤ ((swL l i (l.length - 1)).length : Int) from by rw [swL_len]; omega)).trans ((if_neg (by rw [decide_eq_true_eq]; exact fun h => hil (Int.ofNat_lt.1 h))).trans ?_)
      rfl
    · have e : swL l i (l.length - 1) = l := by
        apply List.ext_getElem
        · rw [swL_len]
        · intro j h1 h2
          have := swL_gi hi hlast j
          simp only [gi, List.getD_eq_getElem?_getD, List.getElem?_eq_getElem h1, List.getElem?_eq_getElem h2, List.getElem?_eq_getElem hi, List.getElem?_eq_getElem hlast, Option.getD_some] at this
          rw [this]
          split
          · rename_i h; subst h; simp only [hie]
          · split
            · rename_i h; subst h; simp only [← hie]
            · rfl
      rw [e]; exact hh.take _
theorem ahead_w {m t mk : Int} {md : Bool} {all : List Ent} {x y : Int} (hx : 0 ≤ x ∧ x.toNat < all.length) (hy : 0 ≤ y ∧ y.toNat < all.length) : F24 (x, y, (), ()) (RO m t mk md all) = some (ahw all x y, RO m t mk md all) := by
  rw [F24]
  refine (if_pos (inR hy)).trans ((if_pos hy.2).trans ((if_pos (inR hx)).trans ((if_pos hx.2).trans ?_)))
  refine bind_of (f23_ok _ _ _ _ _ _ _ _) ?_
  rfl
theorem swap_w {m t mk : Int} {md : Bool} {all : List Ent} {fr ol oa l at' : List Int} {i k : Nat} (hi : i < l.length) (hk : k < l.length) (h : Sd l at') :
    F45w ((), (i : Int), (k : Int), ()) (SS m t mk md all fr ol oa l at') = some ((), SS m t mk md all fr ol oa (swL l i k) (swA l at' i k)) := by
  rw [F45w]
  simp only [Int.toNat_natCast]
  have e : List.set (List.set l i (List.getD l k 0)) k (List.getD l i 0) = swL l i k := rfl
  simp only [e, List.length_set, swL_len]
  have b1 := sd_swap hi hk h i (by rw [swL_len]; exact hi)
  have b2 := sd_swap hi hk h k (by rw [swL_len]; exact hk)
  rw [swA_len] at b1 b2
  refine (if_pos (inN hk)).trans ((if_pos hk).trans ((if_pos (inN hi)).trans ((if_pos hi).trans ?_)))
  refine (if_pos (inN hi)).trans ((if_pos hi).trans ((if_pos (inN hk)).trans ((if_pos hk).trans ?_)))
  refine (if_pos (inN hi)).trans ((if_pos hi).trans ((if_pos (inN hk)).trans ((if_pos hk).trans ?_)))
  refine (if_pos (inR ⟨b1.1, b1.2.1⟩)).trans ((if_pos b1.2.1).trans ((if_pos (inR ⟨b2.1, b2.2.1⟩)).trans ((if_pos b2.2.1).trans ?_)))
  rfl
theorem upl_w {m t mk : Int} {md : Bool} {all : List Ent} {fr ol oa : List Int} : ∀ (k i : Nat) (l at' : List Int), i < k → i < l.length → l.length < 1152921504606846976 → Sd l at' → Bd all l →
    ∃ l' at2, L41w_0 k ((), (i : Int), ()) (SS m t mk md all fr ol oa l at') = some ((), SS m t mk md all fr ol oa l' at2) ∧ l'.Perm l ∧ at2.length = at'.length ∧ Sd l' at2 ∧
      (ExU (ahw all) l i → Hp (ahw all) l') ∧ (ExB (ahw all) l i → ExD (ahw all) l' i)
  | 0, i, l, at', h, _, _, _, _ => by omega
  | k + 1, i, l, at', hk, hi, hl, hs, hb => by
    by_cases h0 : i = 0
    · subst h0
      refine ⟨l, at', ?_, List.Perm.refl _, rfl, hs, fun h => h.stop fun h => absurd h (by omega), fun h => h.stop fun h => absurd h (by omega)⟩
      rw [L41w_0]; exact if_neg (by decide)
    · have h0 : 0 < i := by omega
      have hp : (i - 1) / 2 < l.length := by omega
      have hw := tdiv2 h0 (by omega)
      have hx := hb _ (gi_mem hi); have hy := hb _ (gi_mem hp)
      cases ha : ahw all (gi l i) (gi l ((i - 1) / 2)) with
      | false =>
        refine ⟨l, at', ?_, List.Perm.refl _, rfl, hs, fun h => h.stop fun _ => ha, fun h => h.stop fun _ => ha⟩
        rw [L41w_0]
        refine (if_pos (by rw [decide_eq_true_eq]; omega)).trans ?_
        simp only [hw, Int.toNat_natCast]
        refine (if_pos (inN hi)).trans ((if_pos hi).trans ((if_pos (inN hp)).trans ((if_pos hp).trans ?_)))
        refine bind_of (ahead_w hx hy) ?_
        dsimp only
        exact if_neg (by rw [ha]; decide)
      | true =>
        obtain ⟨l', at2, e, p, hn, hs', c1, c2⟩ := upl_w k ((i - 1) / 2) (swL l i ((i - 1) / 2)) (swA l at' i ((i - 1) / 2)) (by omega) (by rw [swL_len]; exact hp) (by rw [swL_len]; exact hl) (sd_swap hi hp hs) (hb.perm (swL_perm hi hp))
        refine ⟨l', at2, ?_, p.trans (swL_perm hi hp), by rw [hn, swA_len], hs', fun h => c1 (up_step (ord_w all) hi h0 h.exB ha), fun h => (c1 (up_step (ord_w all) hi h0 h ha)).exD (ord_w all) i⟩
        rw [L41w_0]
        refine (if_pos (by rw [decide_eq_true_eq]; omega)).trans ?_
        simp only [hw, Int.toNat_natCast]
        refine (if_pos (inN hi)).trans ((if_pos hi).trans ((if_pos (inN hp)).trans ((if_pos hp).trans ?_)))
        refine bind_of (ahead_w hx hy) ?_
        dsimp only
        refine (if_pos ha).trans ?_
        refine bind_of (swap_w hi hp hs) ?_
        exact e
theorem up_w {m t mk : Int} {md : Bool} {all : List Ent} {fr ol oa : List Int} {k i : Nat} {l at' : List Int} (hk : i < k) (hi : i < l.length) (hl : l.length < 1152921504606846976) (hs : Sd l at') (hb : Bd all l) :
    ∃ l' at2, F41w k ((), (i : Int), ()) (SS m t mk md all fr ol oa l at') = some ((), SS m t mk md all fr ol oa l' at2) ∧ l'.Perm l ∧ at2.length = at'.length ∧ Sd l' at2 ∧
      (ExU (ahw all) l i → Hp (ahw all) l') ∧ (ExB (ahw all) l i → ExD (ahw all) l' i) := by
  obtain ⟨l', at2, e, h⟩ := upl_w (m := m) (t := t) (mk := mk) (md := md) (fr := fr) (ol := ol) (oa := oa) k i l at' hk hi hl hs hb
  exact ⟨l', at2, by rw [F41w]; exact e, h⟩
theorem downl_w {m t mk : Int} {md : Bool} {all : List Ent} {fr ol oa : List Int} : ∀ (k i : Nat) (l at' : List Int), l.length < k + i → i < l.length → l.length < 1152921504606846976 → Sd l at' → Bd all l → ExD (ahw all) l i →
    ∃ l' at2, L46w_0 k ((), (i : Int), ()) (SS m t mk md all fr ol oa l at') = some ((), SS m t mk md all fr ol oa l' at2) ∧ l'.Perm l ∧ at2.length = at'.length ∧ Sd l' at2 ∧ Hp (ahw all) l'
  | 0, i, l, at', h, h2, _, _, _, _ => by omega
  | k + 1, i, l, at', hk, hi, hl, hs, hb, hd => by
    have hx := hb _ (gi_mem hi)
    have e1 := dbl1 (i := i) (by omega)
    have e2 : IntKind.wrap IntKind.i64 (((2 * i + 1 : Nat) : Int) + (1 : Int)) = ((2 * i + 1 + 1 : Nat) : Int) := add1 (by omega)
    have fin : ∀ c, 0 < c → (c - 1) / 2 = i → c < l.length → (∀ j, 0 < j → j < l.length → (j - 1) / 2 = i → ahw all (gi l j) (gi l c) = false) →
        ∃ l' at2, (ahw all (gi l c) (gi l i) = false ∧ l' = l ∧ at2 = at' ∨ ahw all (gi l c) (gi l i) = true ∧ L46w_0 k ((), (c : Int), ()) (SS m t mk md all fr ol oa (swL l i c) (swA l at' i c)) = some ((), SS m t mk md all fr ol oa l' at2)) ∧
          l'.Perm l ∧ at2.length = at'.length ∧ Sd l' at2 ∧ Hp (ahw all) l' := by
      intro c h0 hc hcl hm
      cases ha : ahw all (gi l c) (gi l i) with
      | false => exact ⟨l, at', .inl ⟨rfl, rfl, rfl⟩, List.Perm.refl _, rfl, hs, hd.stop fun j j0 j1 j2 => by unfold okP; rw [j2]; exact (ord_w all).neg _ _ _ (hm j j0 j1 j2) ha⟩
      | true =>
        obtain ⟨l', at2, e, p, hn, hs', c1⟩ := downl_w k c (swL l i c) (swA l at' i c) (by rw [swL_len]; omega) (by rw [swL_len]; exact hcl) (by rw [swL_len]; exact hl) (sd_swap hi hcl hs) (hb.perm (swL_perm hi hcl)) (down_step (ord_w all) hcl h0 hc hd hm ha)
        exact ⟨l', at2, .inr ⟨rfl, e⟩, p.trans (swL_perm hi hcl), by rw [hn, swA_len], hs', c1⟩
    by_cases hA : l.length ≤ 2 * i + 1
    · refine ⟨l, at', ?_, List.Perm.refl _, rfl, hs, hd.stop fun j j0 j1 j2 => by omega⟩
      rw [L46w_0]
      simp only [e1]
      exact if_pos (by rw [decide_eq_true_eq]; exact Int.ofNat_le.2 hA)
    have hc1 : 2 * i + 1 < l.length := by omega
    have hy := hb _ (gi_mem hc1)
    by_cases hB : 2 * i + 1 + 1 < l.length
    · have hz := hb _ (gi_mem hB)
      cases hb2 : ahw all (gi l (2 * i + 1 + 1)) (gi l (2 * i + 1)) with
      | true =>
        obtain ⟨l', at2, hor, post⟩ := fin (2 * i + 1 + 1) (by omega) (by omega) hB fun j j0 j1 j2 => by
          by_cases e : j = 2 * i + 1 + 1
          · subst e; cases e3 : ahw all (gi l (2 * i + 1 + 1)) (gi l (2 * i + 1 + 1)) with
            | false => rfl
            | true => have := (ord_w all).asym _ _ e3; rw [e3] at this; exact this
          · have : j = 2 * i + 1 := by omega
            subst this; exact (ord_w all).asym _ _ hb2
        refine ⟨l', at2, ?_, post⟩
        rw [L46w_0]
        simp only [e1, e2, Int.toNat_natCast]
        refine (if_neg (by rw [decide_eq_true_eq]; exact fun h => hA (Int.ofNat_le.1 h))).trans ((if_pos (by rw [decide_eq_true_eq]; exact Int.ofNat_lt.2 hB)).trans ?_)
        refine (if_pos (inN hB)).trans ((if_pos hB).trans ((if_pos (inN hc1)).trans ((if_pos hc1).trans ?_)))
        refine bind_of (ahead_w hz hy) ?_
        dsimp only
        refine (if_pos hb2).trans ((if_pos (inN hB)).trans ((if_pos hB).trans ((if_pos (inN hi)).trans ((if_pos hi).trans ?_))))
        refine bind_of (ahead_w hz hx) ?_
        dsimp only
        rcases hor with ⟨ha, rfl, rfl⟩ | ⟨ha, e⟩
        · exact if_pos (by rw [ha]; rfl)
        · refine (if_neg (by rw [ha]; decide)).trans ?_
          refine bind_of (swap_w hi hB hs) ?_
          exact e
      | false =>
        obtain ⟨l', at2, hor, post⟩ := fin (2 * i + 1) (by omega) (by omega) hc1 fun j j0 j1 j2 => by
          by_cases e : j = 2 * i + 1
          · subst e; cases e3 : ahw all (gi l (2 * i + 1)) (gi l (2 * i + 1)) with
            | false => rfl
            | true => have := (ord_w all).asym _ _ e3; rw [e3] at this; exact this
          · have : j = 2 * i + 1 + 1 := by omega
            subst this; exact hb2
        refine ⟨l', at2, ?_, post⟩
        rw [L46w_0]
        simp only [e1, e2, Int.toNat_natCast]
        refine (if_neg (by rw [decide_eq_true_eq]; exact fun h => hA (Int.ofNat_le.1 h))).trans ((if_pos (by rw [decide_eq_true_eq]; exact Int.ofNat_lt.2 hB)).trans ?_)
        refine (if_pos (inN hB)).trans ((if_pos hB).trans ((if_pos (inN hc1)).trans ((if_pos hc1).trans ?_)))
        refine bind_of (ahead_w hz hy) ?_
        dsimp only
        refine (if_neg (by rw [hb2]; decide)).trans ((if_pos (inN hc1)).trans ((if_pos hc1).trans ((if_pos (inN hi)).trans ((if_pos hi).trans ?_))))
        refine bind_of (ahead_w hy hx) ?_
        dsimp only
        rcases hor with ⟨ha, rfl, rfl⟩ | ⟨ha, e⟩
        · exact if_pos (by rw [ha]; rfl)
        · refine (if_neg (by rw [ha]; decide)).trans ?_
          refine bind_of (swap_w hi hc1 hs) ?_
          exact e
    · obtain ⟨l', at2, hor, post⟩ := fin (2 * i + 1) (by omega) (by omega) hc1 fun j j0 j1 j2 => by
        have : j = 2 * i + 1 := by omega
        subst this; cases e3 : ahw all (gi l (2 * i + 1)) (gi l (2 * i + 1)) with
        | false => rfl
        | true => have := (ord_w all).asym _ _ e3; rw [e3] at this; exact this
      refine ⟨l', at2, ?_, post⟩
      rw [L46w_0]
      simp only [e1, e2, Int.toNat_natCast]
      refine (if_neg (by rw [decide_eq_true_eq]; exact fun h => hA (Int.ofNat_le.1 h))).trans ((if_neg (by rw [decide_eq_true_eq]; exact fun h => hB (Int.ofNat_lt.1 h))).trans ?_)
      refine (if_pos (inN hc1)).trans ((if_pos hc1).trans ((if_pos (inN hi)).trans ((if_pos hi).trans ?_)))
      refine bind_of (ahead_w hy hx) ?_
      dsimp only
      rcases hor with ⟨ha, rfl, rfl⟩ | ⟨ha, e⟩
      · exact if_pos (by rw [ha]; rfl)
      · refine (if_neg (by rw [ha]; decide)).trans ?_
        refine bind_of (swap_w hi hc1 hs) ?_
        exact e
theorem down_w {m t mk : Int} {md : Bool} {all : List Ent} {fr ol oa : List Int} {k i : Nat} {l at' : List Int} (hk : l.length < k + i) (hi : i < l.length) (hl : l.length < 1152921504606846976) (hs : Sd l at') (hb : Bd all l) (hd : ExD (ahw all) l i) :
    ∃ l' at2, F46w k ((), (i : Int), ()) (SS m t mk md all fr ol oa l at') = some ((), SS m t mk md all fr ol oa l' at2) ∧ l'.Perm l ∧ at2.length = at'.length ∧ Sd l' at2 ∧ Hp (ahw all) l' := by
  obtain ⟨l', at2, e, h⟩ := downl_w (m := m) (t := t) (mk := mk) (md := md) (fr := fr) (ol := ol) (oa := oa) k i l at' hk hi hl hs hb hd
  exact ⟨l', at2, by rw [F46w]; exact e, h⟩
theorem putl_w {m t mk : Int} {md : Bool} {all : List Ent} {fr ol oa : List Int} {K n : Nat} {l : List Int} (hK : l.length < K) (hl : l.length < 1000000000000) (hn : n < 1000000000000) (hb : Bd all l) (hna : n < all.length) (hm : (n : Int) ∉ l) (hh : Hp (ahw all) l) : ∀ (k : Nat) (at' : List Int), n + 1 < k + at'.length ∧ 0 < k → at'.length ≤ 1000000000000 → Sd l at' →
    ∃ l' at2, L27w_0 K k ((), (n : Int), ()) (SP m t mk md all fr ol oa l at') = some ((), SP m t mk md all fr ol oa l' at2) ∧ l'.Perm ((n : Int) :: l) ∧ at2.length = max at'.length (n + 1) ∧ Sd l' at2 ∧ Hp (ahw all) l'
  | 0, at', h, h2, hs => by omega
  | k + 1, at', h, h2, hs => by
    by_cases hg : at'.length ≤ n
    · obtain ⟨l', at2, e, p, hlen, r⟩ := putl_w hK hl hn hb hna hm hh k (at' ++ [0]) (by simp; omega) (by simp; omega) (sd_grow hs [0])
      refine ⟨l', at2, ?_, p, by rw [hlen]; simp; omega, r⟩
      rw [L27w_0]
      exact (if_pos (by rw [decide_eq_true_eq]; exact Int.ofNat_le.2 hg)).trans ((if_pos (by omega)).trans e)
    · have hn' : n < at'.length := by omega
      have hs' := sd_put hs hn' hm
      obtain ⟨l', at2, e, p, hlen, hs2, c1, _⟩ := up_w (m := m) (t := t) (mk := mk) (md := md) (fr := fr) (ol := ol) (oa := oa) (all := all) (k := K) (i := l.length) (l := l ++ [(n : Int)]) hK (by simp) (by simp; omega) hs'
        (fun x hx => (List.mem_append.1 hx).elim (fun h => hb x h) (fun h => by rw [List.mem_singleton.1 h]; omega))
      refine ⟨l', at2, ?_, p.trans (List.perm_append_singleton _ _), by rw [hlen, List.length_set]; omega, hs2, c1 (put_exU hh _)⟩
      rw [L27w_0]
      simp only [Int.toNat_natCast, List.length_set]
      have eg : List.getD (List.set at' n (l.length : Int)) n 0 = (l.length : Int) := by rw [show List.getD (List.set at' n (l.length : Int)) n 0 = gi (List.set at' n (l.length : Int)) n from rfl, gi_set hn', if_pos rfl]
      refine (if_neg (by rw [decide_eq_true_eq]; exact fun h => hg (Int.ofNat_le.1 h))).trans ((if_pos (inN hn')).trans ((if_pos hn').trans ((if_pos (by omega)).trans ((if_pos (inN hn')).trans ((if_pos hn').trans ?_)))))
      rw [eg]
      refine bind_of e ?_
      rfl
theorem put_w {m t mk : Int} {md : Bool} {all : List Ent} {fr ol oa : List Int} {K n : Nat} {l at' : List Int} (hK : l.length < K) (hKn : n + 1 < K) (hl : l.length < 1000000000000) (hn : n < 1000000000000) (hb : Bd all l) (hna : n < all.length) (hm : (n : Int) ∉ l) (hh : Hp (ahw all) l) (ha : at'.length ≤ 1000000000000) (hs : Sd l at') :
    ∃ l' at2, F27w K ((), (n : Int), ()) (SS m t mk md all fr ol oa l at') = some ((), SP m t mk md all fr ol oa l' at2) ∧ l'.Perm ((n : Int) :: l) ∧ at2.length = max at'.length (n + 1) ∧ Sd l' at2 ∧ Hp (ahw all) l' := by
  obtain ⟨l', at2, e, h⟩ := putl_w (m := m) (t := t) (mk := mk) (md := md) (fr := fr) (ol := ol) (oa := oa) hK hl hn hb hna hm hh K at' (by omega) ha hs
  exact ⟨l', at2, by rw [F27w]; exact e, h⟩
theorem out_w {m t mk : Int} {md : Bool} {all : List Ent} {fr ol oa : List Int} {K : Nat} {n : Int} {l at' : List Int} (hK : l.length < K) (hl : l.length < 1000000000000) (hb : Bd all l) (hm : n ∈ l) (hh : Hp (ahw all) l) (hs : Sd l at') :
    ∃ l' at2, F42w K ((), n, ()) (SS m t mk md all fr ol oa l at') = some ((), SP m t mk md all fr ol oa l' at2) ∧ l.Perm (n :: l') ∧ at2.length = at'.length ∧ Sd l' at2 ∧ Hp (ahw all) l' := by
  obtain ⟨i, hi, rfl⟩ := mem_gi hm
  obtain ⟨d0, d1, d2⟩ := hs i hi
  have hlast : l.length - 1 < l.length := by omega
  have ew : IntKind.wrap IntKind.i64 ((l.length : Int) - (1 : Int)) = ((l.length - 1 : Nat) : Int) := by rw [wi (by omega) (by omega)]; omega
  have hsw := sd_swap hi hlast hs
  have hp1 : (swL l i (l.length - 1)).Perm (gi l i :: (swL l i (l.length - 1)).take (l.length - 1)) := take_perm (by rw [swL_len]; omega) (by rw [swL_gi hi hlast, if_pos rfl])
  have hlen : ((swL l i (l.length - 1)).take (l.length - 1)).length = l.length - 1 := by rw [List.length_take, swL_len]; omega
  have hs2 := sd_take hsw (l.length - 1)
  have hb2 : Bd all ((swL l i (l.length - 1)).take (l.length - 1)) := fun x hx => hb.perm (swL_perm hi hlast) x (List.mem_of_mem_take hx)
  have hpl : l.Perm (gi l i :: (swL l i (l.length - 1)).take (l.length - 1)) := (swL_perm hi hlast).symm.trans hp1
  by_cases hil : i < l.length - 1
  · obtain ⟨l1, at1, e1, p1, n1, s1, _, c1⟩ := up_w (m := m) (t := t) (mk := mk) (md := md) (fr := fr) (ol := ol) (oa := oa) (all := all) (k := K) (i := i) (by omega) (by rw [hlen]; exact hil) (by omega) hs2 hb2
    have hd := c1 (out_exB (ord_w all) hh (by omega))
    have hl1 : l1.length = l.length - 1 := by rw [p1.length_eq, hlen]
    obtain ⟨l2, at2, e2, p2, n2, s2, c2⟩ := down_w (m := m) (t := t) (mk := mk) (md := md) (fr := fr) (ol := ol) (oa := oa) (all := all) (k := K) (i := i) (by omega) (by omega) (by omega) s1 (hb2.perm p1) hd
    refine ⟨l2, at2, ?_, hpl.trans ((p2.trans p1).symm.cons _), by rw [n2, n1, swA_len], s2, c2⟩
    rw [F42w]
    refine (if_pos (inR ⟨d0, d1⟩)).trans ((if_pos d1).trans ?_)
    simp only [ew]
    rw [show List.getD at' (gi l i).toNat 0 = (i : Int) from d2]
    refine bind_of (swap_w hi hlast hs) ?_
    dsimp only
    simp only [Int.toNat_natCast, Nat.sub_zero, List.drop_zero]
    refine (if_pos (show (0 : Int) ≤ ((l.length - 1 : Nat) : Int) ∧ ((l.length - 1 : Nat) : Int) ≤ ((swL l i (l.length - 1)).length : Int) from by rw [swL_len]; omega)).trans ((if_pos (by rw [decide_eq_true_eq]; exact Int.ofNat_lt.2 hil)).trans ?_)
    refine bind_of e1 ?_
    refine bind_of e2 ?_
    rfl
  · have hie : i = l.length - 1 := by omega
    refine ⟨(swL l i (l.length - 1)).take (l.length - 1), swA l at' i (l.length - 1), ?_, hpl, by rw [swA_len], hs2, ?_⟩
    · rw [F42w]
      refine (if_pos (inR ⟨d0, d1⟩)).trans ((if_pos d1).trans ?_)
      simp only [ew]
      rw [show List.getD at' (gi l i).toNat 0 = (i : Int) from d2]
      refine bind_of (swap_w hi hlast hs) ?_
      dsimp only
      simp only [Int.toNat_natCast, Nat.sub_zero, List.drop_zero]
      refine (if_pos (show (0 : Int) ≤ ((l.length - 1 : Nat) : Int) ∧ ((l.length - 1 : Nat) : Int) ≤ ((swL l i (l.length - 1)).length : Int) from by rw [swL_len]; omega)).trans ((if_neg (by rw [decide_eq_true_eq]; exact fun h => hil (Int.ofNat_lt.1 h))).trans ?_)
      rfl
    · have e : swL l i (l.length - 1) = l := by
        apply List.ext_getElem
        · rw [swL_len]
        · intro j h1 h2
          have := swL_gi hi hlast j
          simp only [gi, List.getD_eq_getElem?_getD, List.getElem?_eq_getElem h1, List.getElem?_eq_getElem h2, List.getElem?_eq_getElem hi, List.getElem?_eq_getElem hlast, Option.getD_some] at this
          rw [this]
          split
          · rename_i h; subst h; simp only [hie]
          · split
            · rename_i h; subst h; simp only [← hie]
            · rfl
      rw [e]; exact hh.take _
end Go.Eng.He

set_option linter.unusedVariables false
namespace Go.Eng.He
open Go Go.Eng Go.Proofs
abbrev HMo : List OP := match alts13 with
  | (_, o) :: _ => o
  | [] => []
structure HS where
  m : Int
  t : Int
  k : Int
  md : Bool
  all : List Ent
  fr : List Int
  bl : List Int
  ba : List Int
  wl : List Int
  wa : List Int
abbrev HS.O (s : HS) : OPL.T os12 := ((s.m, (), (), (), (), s.t, s.k, s.md, ()), s.all, s.fr, (((), ()), (), (), ()), ((), ()), s.bl, s.ba, (((), ()), (), (), ()), s.wl, s.wa, ())
abbrev HS.M (s : HS) : OPL.T HMo := ((s.m, (), (), (), (), s.t, s.k, s.md, ()), (), (), (((), ()), (), (), ()), ((), ()), (), (), (((), ()), (), (), ()), (), (), s.all, s.fr, s.bl, s.ba, s.wl, s.wa, ())
structure Inv (s : HS) : Prop where
  sb : Sd s.bl s.ba
  sw : Sd s.wl s.wa
  hb : Hp (ahb s.all) s.bl
  hw : Hp (ahw s.all) s.wl
  pw : s.wl.Perm s.bl
  nd : (s.bl ++ s.fr).Nodup
  bd : Bd s.all (s.bl ++ s.fr)
  cnt : s.all.length = s.bl.length + s.fr.length
  lb : s.ba.length ≤ s.all.length
  lw : s.wa.length ≤ s.all.length
  cap : (s.all.length : Int) ≤ s.m + 1
  mhi : s.m ≤ 65536
def live (s : HS) : List Ent := s.bl.map (en s.all)
theorem Bd.left {all : List Ent} {l r : List Int} (h : Bd all (l ++ r)) : Bd all l := fun x hx => h x (List.mem_append_left _ hx)
theorem len_ok (s : HS) : F14 ((), ()) s.O = some ((s.bl.length : Int), s.O) := rfl
theorem mark_ok (s : HS) : F17 ((), ()) s.O = some ((s.k, s.md, ()), s.O) := rfl
theorem take_ok {K : Nat} {s : HS} {n : Int} (hI : Inv s) (hn : n ∈ s.bl) (hK : s.bl.length < K) :
    ∃ s', F28 K ((), n, ()) s.O = some (((en s.all n).1, (en s.all n).2.1, (en s.all n).2.2.1, ()), s'.M) ∧ Inv s' ∧ s'.all = s.all ∧ s.bl.Perm (n :: s'.bl) ∧ s'.m = s.m ∧ s'.t = s.t ∧ s'.k = s.k ∧ s'.md = s.md := by
  obtain ⟨m, t, mk, md, all, fr, bl, ba, wl, wa⟩ := s
  obtain ⟨sb, sw, hb, hw, pw, nd, bd, cnt, lb, lw, cap, mhi⟩ := hI
  simp only at *
  obtain ⟨l1, a1, e1, p1, n1, s1, c1⟩ := out_b (m := m) (t := t) (mk := mk) (md := md) (fr := fr) (ol := wl) (oa := wa) hK (by omega) bd.left hn hb sb
  have hl1 := pw.length_eq
  obtain ⟨l2, a2, e2, p2, n2, s2, c2⟩ := out_w (K := K) (m := m) (t := t) (mk := mk) (md := md) (fr := fr) (ol := l1) (oa := a1) (by omega) (by omega) (bd.left.perm pw) (pw.mem_iff.2 hn) hw sw
  have hb1 := bd n (List.mem_append_left _ hn)
  have hp : (l1 ++ (fr ++ [n])).Perm (bl ++ fr) := by
    refine List.Perm.trans ?_ (p1.symm.append_right fr)
    rw [← List.append_assoc]
    exact List.perm_append_singleton _ _
  have hlen : bl.length = l1.length + 1 := by rw [p1.length_eq]; rfl
  refine ⟨⟨m, t, mk, md, all, fr ++ [n], l1, a1, l2, a2⟩, ?_, ⟨s1, s2, c1, c2, (p2.symm.trans (pw.trans p1)).cons_inv, hp.nodup_iff.2 nd, bd.perm hp, by simp; omega, by simp only; omega, by simp only; omega, cap, mhi⟩, rfl, p1, rfl, rfl, rfl, rfl⟩
  rw [F28]
  refine bind_of e1 ?_
  refine bind_of e2 ?_
  refine (if_pos (show (fr.length + 1) * 8 ≤ 140737488355328 by omega)).trans ((if_pos (inR hb1)).trans ((if_pos hb1.2).trans ?_))
  rfl
theorem root_b {s : HS} (hI : Inv s) {x : Int} (h0 : 0 < s.bl.length) (hx : x ∈ s.bl) : btr (en s.all x) (en s.all (gi s.bl 0)) = false := by
  obtain ⟨j, hj, rfl⟩ := mem_gi hx
  exact hI.hb.root (ord_b _) j hj
theorem root_w {s : HS} (hI : Inv s) {x : Int} (h0 : 0 < s.bl.length) (hx : x ∈ s.bl) : btr (en s.all (gi s.wl 0)) (en s.all x) = false := by
  obtain ⟨j, hj, rfl⟩ := mem_gi (hI.pw.mem_iff.2 hx)
  exact hI.hw.root (ord_w _) j hj
theorem live_perm {s s' : HS} {n : Int} (ha : s'.all = s.all) (hp : s.bl.Perm (n :: s'.bl)) : (live s).Perm (en s.all n :: live s') := by
  unfold live; rw [ha]; exact hp.map _
theorem pop_ok {K : Nat} {s : HS} (hI : Inv s) (hK : s.bl.length < K) :
    (s.bl = [] ∧ F13 K ((), ()) s.O = some (((0, 0, 0, ()), false, ()), s.M)) ∨
    ∃ s' d, F13 K ((), ()) s.O = some (((d.1, d.2.1, d.2.2.1, ()), true, ()), s'.M) ∧ Inv s' ∧ (live s).Perm (d :: live s') ∧ (∀ e ∈ live s, btr e d = false) ∧ s'.m = s.m ∧ s'.t = s.t ∧ s'.k = s.k ∧ s'.md = s.md := by
  by_cases h0 : s.bl.length = 0
  · refine .inl ⟨List.eq_nil_of_length_eq_zero h0, ?_⟩
    rw [F13]
    refine bind_of (len_ok s) ?_
    exact if_pos (by rw [decide_eq_true_eq]; exact congrArg Nat.cast h0)
  · have h0 : 0 < s.bl.length := by omega
    obtain ⟨s', e, hI', ha, hp, r⟩ := take_ok hI (gi_mem h0) hK
    refine .inr ⟨s', en s.all (gi s.bl 0), ?_, hI', live_perm ha hp, ?_, r⟩
    · rw [F13]
      refine bind_of (len_ok s) ?_
      refine (if_neg (by rw [decide_eq_true_eq]; intro h; exact absurd (show (s.bl.length : Int) = 0 from h) (by omega))).trans ((if_pos (inN h0)).trans ((if_pos h0).trans ?_))
      refine bind_of e ?_
      rfl
    · intro e he
      obtain ⟨x, hx, rfl⟩ := List.mem_map.1 he
      exact root_b hI h0 hx
theorem worst_ok {s : HS} (hI : Inv s) (h0 : 0 < s.bl.length) : ∃ w ∈ live s, F15 ((), ()) s.O = some (((w.1, w.2.1, w.2.2.1, ()), true, ()), s.O) := by
  have h1 : 0 < s.wl.length := by rw [hI.pw.length_eq]; exact h0
  have hm : gi s.wl 0 ∈ s.bl := hI.pw.mem_iff.1 (gi_mem h1)
  have hb := hI.bd _ (List.mem_append_left _ hm)
  refine ⟨en s.all (gi s.wl 0), List.mem_map.2 ⟨_, hm, rfl⟩, ?_⟩
  rw [F15]
  refine bind_of (len_ok s) ?_
  refine (if_neg (by rw [decide_eq_true_eq]; intro h; exact absurd (show (s.bl.length : Int) = 0 from h) (by omega))).trans ((if_pos (inN h1)).trans ((if_pos h1).trans ((if_pos (inR hb)).trans ((if_pos hb.2).trans ?_))))
  rfl
theorem Hp.congr {ah ah2 : Int → Int → Bool} {l : List Int} (h : Hp ah l) (hc : ∀ x ∈ l, ∀ y ∈ l, ah2 x y = ah x y) : Hp ah2 l := by
  intro j h0 h1
  unfold okP
  rw [hc _ (gi_mem h1) _ (gi_mem (by omega))]
  exact h j h0 h1
theorem place {s : HS} (hI : Inv s) (hl : (s.bl.length : Int) ≤ s.m) (e : Ent) : ∃ (n : Nat) (all1 : List Ent) (fr1 : List Int),
    (s.fr.length = 0 ∧ n = s.all.length ∧ all1 = s.all ++ [e] ∧ fr1 = s.fr ∨ 0 < s.fr.length ∧ (n : Int) = gi s.fr (s.fr.length - 1) ∧ n < s.all.length ∧ all1 = s.all.set n e ∧ fr1 = s.fr.take (s.fr.length - 1)) ∧
    ((n : Int) :: (s.bl ++ fr1)).Nodup ∧ Bd all1 ((n : Int) :: (s.bl ++ fr1)) ∧ (∀ x ∈ s.bl, en all1 x = en s.all x) ∧ en all1 n = e ∧ all1.length = s.bl.length + 1 + fr1.length ∧ s.all.length ≤ all1.length ∧ (all1.length : Int) ≤ s.m + 1 := by
  obtain ⟨m, t, mk, md, all, fr, bl, ba, wl, wa⟩ := s
  obtain ⟨sb, sw, hb, hw, pw, nd, bd, cnt, lb, lw, cap, mhi⟩ := hI
  simp only at *
  by_cases h0 : fr.length = 0
  · have : fr = [] := List.eq_nil_of_length_eq_zero h0
    subst this
    refine ⟨all.length, all ++ [e], [], .inl ⟨rfl, rfl, rfl, rfl⟩, ?_, ?_, ?_, ?_, by simp at *; omega, by simp, by simp at *; omega⟩
    · refine List.nodup_cons.2 ⟨fun h => ?_, nd⟩
      have := bd _ h
      omega
    · intro x hx
      rw [List.length_append, List.length_singleton]
      rcases List.mem_cons.1 hx with h | h
      · omega
      · have := bd x h; omega
    · intro x hx
      have := bd x (List.mem_append_left _ hx)
      simp only [en, List.getD_eq_getElem?_getD, List.getElem?_append_left this.2]
    · simp [en, List.getD_eq_getElem?_getD]
  · have h0 : 0 < fr.length := by omega
    have hp := take_perm (l := fr) (m := fr.length - 1) (n := gi fr (fr.length - 1)) (by omega) rfl
    have hb1 := bd _ (List.mem_append_right bl (gi_mem (l := fr) (i := fr.length - 1) (by omega)))
    obtain ⟨n, hn⟩ : ∃ n : Nat, (n : Int) = gi fr (fr.length - 1) := ⟨(gi fr (fr.length - 1)).toNat, by omega⟩
    rw [← hn] at hp hb1
    rw [Int.toNat_natCast] at hb1
    have hq : ((n : Int) :: (bl ++ fr.take (fr.length - 1))).Perm (bl ++ fr) := List.perm_middle.symm.trans (hp.symm.append_left bl)
    have hnd := hq.nodup_iff.2 nd
    refine ⟨n, all.set n e, fr.take (fr.length - 1), .inr ⟨h0, hn, hb1.2, rfl, rfl⟩, hnd, ?_, ?_, ?_, by rw [List.length_set, List.length_take]; omega, by rw [List.length_set]; omega, by rw [List.length_set]; exact cap⟩
    · intro x hx
      rw [List.length_set]
      exact bd.perm hq x hx
    · intro x hx
      have h1 := bd x (List.mem_append_left _ hx)
      have : x.toNat ≠ n := by
        intro h
        refine (List.nodup_cons.1 hnd).1 (List.mem_append_left _ ?_)
        rwa [show (n : Int) = x by omega]
      simp only [en, List.getD_eq_getElem?_getD, List.getElem?_set]
      rw [if_neg (Ne.symm this)]
    · simp [en, List.getD_eq_getElem?_getD, List.getElem?_set, hb1.2]
end Go.Eng.He

set_option linter.unusedVariables false
namespace Go.Eng.He
open Go Go.Eng Go.Proofs
def newE (s : HS) (x1 x2 x3 : Int) : Ent := (x1, x2, x3, IntKind.wrap IntKind.u64 (s.t + 1))
theorem put_ok {K : Nat} {s : HS} (hI : Inv s) (hl : (s.bl.length : Int) ≤ s.m) (x1 x2 x3 : Int) (hK : 200000 < K) :
    ∃ s', ((s.bl.length : Int) < s.m ∧ F12 K ((), (x1, x2, x3, ()), ()) s.O = some (((0, 0, 0, ()), false, 0, ()), s'.M) ∧ (live s').Perm (newE s x1 x2 x3 :: live s) ∧ s'.k = s.k ∧ s'.md = s.md ∨
      (s.bl.length : Int) = s.m ∧ ∃ d : Ent, F12 K ((), (x1, x2, x3, ()), ()) s.O = some (((d.1, d.2.1, d.2.2.1, ()), true, 0, ()), s'.M) ∧ (d :: live s').Perm (newE s x1 x2 x3 :: live s) ∧ (∀ y ∈ live s', btr d y = false) ∧ s'.md = true ∧
        s'.k = (if s.md = false then d.1 else if s.k < d.1 then d.1 else s.k)) ∧ Inv s' ∧ s'.m = s.m ∧ s'.t = IntKind.wrap IntKind.u64 (s.t + 1) := by
  obtain ⟨n, all1, fr1, hor, hnd, hbd, hsame, hnew, hcnt, hge, hle⟩ := place hI hl (newE s x1 x2 x3)
  obtain ⟨m, t, mk, md, all, fr, bl, ba, wl, wa⟩ := s
  obtain ⟨sb, sw, hb, hw, pw, nd, bd, cnt, lb, lw, cap, mhi⟩ := hI
  simp only [live] at *
  have hbn := hbd n (List.mem_cons_self ..)
  rw [Int.toNat_natCast] at hbn
  have hbb : Bd all1 bl := fun x hx => hbd x (List.mem_cons_of_mem _ (List.mem_append_left _ hx))
  have hnb : (n : Int) ∉ bl := fun h => (List.nodup_cons.1 hnd).1 (List.mem_append_left _ h)
  have hb' : Hp (ahb all1) bl := hb.congr fun x hx y hy => by simp only [ahb, hsame x hx, hsame y hy]
  have hw' : Hp (ahw all1) wl := hw.congr fun x hx y hy => by simp only [ahw, hsame x (pw.mem_iff.1 hx), hsame y (pw.mem_iff.1 hy)]
  have hwl := pw.length_eq
  obtain ⟨bl1, ba1, e1, p1, n1, s1, c1⟩ := put_b (m := m) (t := IntKind.wrap IntKind.u64 (t + 1)) (mk := mk) (md := md) (all := all1) (fr := fr1) (ol := wl) (oa := wa) (K := K) (n := n) (l := bl) (at' := ba) (by omega) (by omega) (by omega) (by omega) hbb hbn.2 hnb hb' (by omega) sb
  obtain ⟨wl1, wa1, e2, p2, n2, s2, c2⟩ := put_w (m := m) (t := IntKind.wrap IntKind.u64 (t + 1)) (mk := mk) (md := md) (all := all1) (fr := fr1) (ol := bl1) (oa := ba1) (K := K) (n := n) (l := wl) (at' := wa) (by omega) (by omega) (by omega) (by omega) (hbb.perm pw) hbn.2 (fun h => hnb (pw.mem_iff.1 h)) hw' (by omega) sw
  have hpp : (bl1 ++ fr1).Perm ((n : Int) :: (bl ++ fr1)) := p1.append_right fr1
  have hl1 : bl1.length = bl.length + 1 := by rw [p1.length_eq]; rfl
  have hI1 : Inv ⟨m, IntKind.wrap IntKind.u64 (t + 1), mk, md, all1, fr1, bl1, ba1, wl1, wa1⟩ :=
    ⟨s1, s2, c1, c2, p2.trans ((pw.cons _).trans p1.symm), hpp.nodup_iff.2 hnd, hbd.perm hpp, by simp only; omega, by simp only; omega, by simp only; omega, hle, mhi⟩
  have hlive : (bl1.map (en all1)).Perm (newE ⟨m, t, mk, md, all, fr, bl, ba, wl, wa⟩ x1 x2 x3 :: bl.map (en all)) := by
    refine (p1.map _).trans ?_
    rw [List.map_cons, hnew]
    rw [List.map_congr_left hsame]
  by_cases hlt : (bl.length : Int) < m
  · refine ⟨⟨m, IntKind.wrap IntKind.u64 (t + 1), mk, md, all1, fr1, bl1, ba1, wl1, wa1⟩, .inl ⟨hlt, ?_, hlive, rfl, rfl⟩, hI1, rfl, rfl⟩
    rw [F12]
    refine bind_of rfl ?_
    dsimp only
    refine (if_neg (by decide)).trans ?_
    rcases hor with ⟨h0, rfl, rfl, rfl⟩ | ⟨h0, hn, hna, rfl, rfl⟩
    · refine (if_neg (by rw [decide_eq_true_eq]; intro h; exact absurd (show (0 : Int) < (fr1.length : Int) from h) (by omega))).trans ((if_pos (show (all.length + 1) * 32 ≤ 140737488355328 by omega)).trans ?_)
      refine bind_of e1 ?_
      refine bind_of e2 ?_
      refine bind_of rfl ?_
      exact if_pos (by rw [decide_eq_true_eq]; exact (show (bl1.length : Int) ≤ m by omega))
    · have ew : IntKind.wrap IntKind.i64 ((fr.length : Int) - (1 : Int)) = ((fr.length - 1 : Nat) : Int) := by rw [wi (by omega) (by omega)]; omega
      simp only [ew, Int.toNat_natCast]
      rw [show List.getD fr (fr.length - 1) 0 = (n : Int) from hn.symm]
      simp only [Int.toNat_natCast, Nat.sub_zero, List.drop_zero]
      have h1 : fr.length - 1 < fr.length := by omega
      refine (if_pos (by rw [decide_eq_true_eq]; exact (show (0 : Int) < (fr.length : Int) by omega))).trans ((if_pos (inN h1)).trans ((if_pos h1).trans ((if_pos (show (0 : Int) ≤ ((fr.length - 1 : Nat) : Int) ∧ ((fr.length - 1 : Nat) : Int) ≤ (fr.length : Int) by omega)).trans ((if_pos (inN hna)).trans ((if_pos hna).trans ?_)))))
      refine bind_of e1 ?_
      refine bind_of e2 ?_
      refine bind_of rfl ?_
      exact if_pos (by rw [decide_eq_true_eq]; exact (show (bl1.length : Int) ≤ m by omega))
  · have hw0 : 0 < wl1.length := by rw [p2.length_eq]; simp
    have hbw : bl1.length = wl1.length := by rw [p2.length_eq, p1.length_eq]; simp; omega
    obtain ⟨s2', e3, hI2, ha2, hp2, hm2, ht2, hk2, hd2⟩ := take_ok (K := K) (n := gi wl1 0) hI1 (hI1.pw.mem_iff.1 (gi_mem hw0)) (by simp only; omega)
    have hdl : ∀ y ∈ bl1, btr (en all1 (gi wl1 0)) (en all1 y) = false := fun y hy => root_w (s := ⟨m, IntKind.wrap IntKind.u64 (t + 1), mk, md, all1, fr1, bl1, ba1, wl1, wa1⟩) hI1 (by simp only; omega) hy
    obtain ⟨m', t', mk', md', all', fr', bl', ba', wl', wa'⟩ := s2'
    simp only at ha2 hp2 hm2 ht2 hk2 hd2 e3
    subst ha2 hm2 ht2 hk2 hd2
    have hfin : ∃ mk3, mk3 = (if md' = false then (en all' (gi wl1 0)).1 else if mk' < (en all' (gi wl1 0)).1 then (en all' (gi wl1 0)).1 else mk') ∧
        F12 K ((), (x1, x2, x3, ()), ()) (HS.O ⟨m', t, mk', md', all, fr, bl, ba, wl, wa⟩) = some ((((en all' (gi wl1 0)).1, (en all' (gi wl1 0)).2.1, (en all' (gi wl1 0)).2.2.1, ()), true, 0, ()), HS.M ⟨m', IntKind.wrap IntKind.u64 (t + 1), mk3, true, all', fr', bl', ba', wl', wa'⟩) := by
      refine ⟨_, rfl, ?_⟩
      rw [F12]
      refine bind_of rfl ?_
      dsimp only
      refine (if_neg (by decide)).trans ?_
      rcases hor with ⟨h0, rfl, rfl, rfl⟩ | ⟨h0, hn, hna, rfl, rfl⟩
      · refine (if_neg (by rw [decide_eq_true_eq]; intro h; exact absurd (show (0 : Int) < (fr1.length : Int) from h) (by omega))).trans ((if_pos (show (all.length + 1) * 32 ≤ 140737488355328 by omega)).trans ?_)
        refine bind_of e1 ?_
        refine bind_of e2 ?_
        refine bind_of rfl ?_
        refine (if_neg (by rw [decide_eq_true_eq]; intro h; exact absurd (show (bl1.length : Int) ≤ m' from h) (by omega))).trans ((if_pos (inN hw0)).trans ((if_pos hw0).trans ?_))
        refine bind_of e3 ?_
        dsimp only
        cases md' with
        | false => exact if_pos rfl
        | true =>
          refine (if_neg (by decide)).trans ?_
          by_cases hk : mk' < (en (all ++ [newE ⟨m', t, mk', true, all, fr1, bl, ba, wl, wa⟩ x1 x2 x3]) (gi wl1 0)).1
          · rw [if_neg (show ¬ (true = false) by decide), if_pos hk]; exact if_pos (decide_eq_true hk)
          · rw [if_neg (show ¬ (true = false) by decide), if_neg hk]; exact if_neg (fun h => hk (of_decide_eq_true h))
      · have ew : IntKind.wrap IntKind.i64 ((fr.length : Int) - (1 : Int)) = ((fr.length - 1 : Nat) : Int) := by rw [wi (by omega) (by omega)]; omega
        simp only [ew, Int.toNat_natCast]
        rw [show List.getD fr (fr.length - 1) 0 = (n : Int) from hn.symm]
        simp only [Int.toNat_natCast, Nat.sub_zero, List.drop_zero]
        have h1 : fr.length - 1 < fr.length := by omega
        refine (if_pos (by rw [decide_eq_true_eq]; exact (show (0 : Int) < (fr.length : Int) by omega))).trans ((if_pos (inN h1)).trans ((if_pos h1).trans ((if_pos (show (0 : Int) ≤ ((fr.length - 1 : Nat) : Int) ∧ ((fr.length - 1 : Nat) : Int) ≤ (fr.length : Int) by omega)).trans ((if_pos (inN hna)).trans ((if_pos hna).trans ?_)))))
        refine bind_of e1 ?_
        refine bind_of e2 ?_
        refine bind_of rfl ?_
        refine (if_neg (by rw [decide_eq_true_eq]; intro h; exact absurd (show (bl1.length : Int) ≤ m' from h) (by omega))).trans ((if_pos (inN hw0)).trans ((if_pos hw0).trans ?_))
        refine bind_of e3 ?_
        dsimp only
        cases md' with
        | false => exact if_pos rfl
        | true =>
          refine (if_neg (by decide)).trans ?_
          by_cases hk : mk' < (en (all.set n (newE ⟨m', t, mk', true, all, fr, bl, ba, wl, wa⟩ x1 x2 x3)) (gi wl1 0)).1
          · rw [if_neg (show ¬ (true = false) by decide), if_pos hk]; exact if_pos (decide_eq_true hk)
          · rw [if_neg (show ¬ (true = false) by decide), if_neg hk]; exact if_neg (fun h => hk (of_decide_eq_true h))
    obtain ⟨mk3, hk3, e4⟩ := hfin
    have q : (en all' (gi wl1 0) :: bl'.map (en all')).Perm (bl1.map (en all')) := (hp2.map (en all')).symm
    refine ⟨⟨m', IntKind.wrap IntKind.u64 (t + 1), mk3, true, all', fr', bl', ba', wl', wa'⟩, .inr ⟨by omega, en all' (gi wl1 0), e4, q.trans hlive, ?_, rfl, hk3⟩, ⟨hI2.sb, hI2.sw, hI2.hb, hI2.hw, hI2.pw, hI2.nd, hI2.bd, hI2.cnt, hI2.lb, hI2.lw, hI2.cap, hI2.mhi⟩, rfl, rfl⟩
    intro y hy
    obtain ⟨z, hz, rfl⟩ := List.mem_map.1 hy
    exact hdl z (hp2.mem_iff.2 (List.mem_cons_of_mem _ hz))
end Go.Eng.He

set_option linter.unusedVariables false
namespace Go.Eng.He
open Go Go.Eng Go.Proofs
theorem live_len (s : HS) : (live s).length = s.bl.length := by simp [live]
theorem top_ok {s : HS} (hI : Inv s) (h0 : 0 < s.bl.length) : ∃ d ∈ live s, F25 ((), ()) s.O = some (((d.1, d.2.1, d.2.2.1, ()), true, ()), s.O) ∧ ∀ e ∈ live s, btr e d = false := by
  have hm : gi s.bl 0 ∈ s.bl := gi_mem h0
  have hb := hI.bd _ (List.mem_append_left _ hm)
  refine ⟨en s.all (gi s.bl 0), List.mem_map.2 ⟨_, hm, rfl⟩, ?_, ?_⟩
  · rw [F25]
    refine bind_of (len_ok s) ?_
    refine (if_neg (by rw [decide_eq_true_eq]; intro h; exact absurd (show (s.bl.length : Int) = 0 from h) (by omega))).trans ((if_pos (inN h0)).trans ((if_pos h0).trans ((if_pos (inR hb)).trans ((if_pos hb.2).trans ?_))))
    rfl
  · intro e he
    obtain ⟨x, hx, rfl⟩ := List.mem_map.1 he
    exact root_b hI h0 hx
def empty (m : Int) : HS := ⟨m, 0, 0, false, [], [], [], [], [], []⟩
theorem inv_empty {m : Int} (h0 : 1 ≤ m) (h : m ≤ 65536) : Inv (empty m) :=
  ⟨fun i hi => absurd hi (Nat.not_lt_zero _), fun i hi => absurd hi (Nat.not_lt_zero _), fun i _ hi => absurd hi (Nat.not_lt_zero _), fun i _ hi => absurd hi (Nat.not_lt_zero _), List.Perm.refl _, List.nodup_nil, (fun x hx => nomatch hx), rfl, Nat.le_refl _, Nat.le_refl _, (by show ((0 : Nat) : Int) ≤ m + 1; omega), h⟩
theorem new_ok {m : Int} (h0 : 1 ≤ m) (h : m ≤ 65536) : F9 (m, ()) () = some (Sum.inr (((), 0, ()), (empty m).O)) := by
  rw [F9]
  exact (if_neg (fun h' => absurd (of_decide_eq_true h') (show ¬ m < 1 by omega))).trans (if_neg (fun h' => absurd (of_decide_eq_true h') (show ¬ 65536 < m by omega)))
theorem knows_ok {K : Nat} (hK : 200000 < K) : F11 K () () = some (true, ()) := by
  obtain ⟨s1, h1, I1, m1, t1⟩ := put_ok (K := K) (inv_empty (m := 2) (by decide) (by decide)) (by decide) 1 0 7 hK
  rcases h1 with ⟨_, e1, p1, _⟩ | ⟨h, _⟩
  rotate_left
  · exact absurd h (by decide)
  have l1 : s1.bl.length = 1 := by rw [← live_len, p1.length_eq]; rfl
  have m1 : s1.m = 2 := m1
  obtain ⟨s2, h2, I2, m2, t2⟩ := put_ok (K := K) I1 (by omega) 3 0 8 hK
  rcases h2 with ⟨_, e2, p2, _⟩ | ⟨h, _⟩
  rotate_left
  · omega
  have l2 : s2.bl.length = 2 := by rw [← live_len, p2.length_eq, List.length_cons, live_len, l1]
  obtain ⟨d, hd, e3, hmax⟩ := top_ok I2 (by omega)
  have hd8 : d.2.2.1 = 8 := by
    have hp : (live s2).Perm [newE s1 3 0 8, newE (empty 2) 1 0 7] := p2.trans (p1.cons _)
    have h1 := hmax (newE s1 3 0 8) (hp.mem_iff.2 (by simp))
    rcases List.mem_cons.1 (hp.mem_iff.1 hd) with h | h
    · rw [h]; rfl
    · rw [List.mem_singleton.1 h] at h1
      exact absurd h1 (by simp [btr, newE])
  rw [F11]
  refine bind_of (new_ok (m := 2) (by decide) (by decide)) ?_
  dsimp only [Sum.elim_inr]
  refine bind_of rfl ?_
  refine (if_neg (by decide)).trans ?_
  refine bind_of e1 ?_
  refine bind_of e2 ?_
  refine bind_of e3 ?_
  refine (if_pos rfl).trans ((if_pos (decide_eq_true hd8)).trans ?_)
  refine bind_of (len_ok s2) ?_
  show some (decide ((s2.bl.length : Int) = 2), ()) = _
  rw [l2]; rfl
end Go.Eng.He

set_option linter.unusedVariables false
namespace Go.Eng.He
open Go Go.Eng Go.Proofs
abbrev eg (l : List Ent) (i : Nat) : Ent := List.getD l i ent0
theorem eg_set {l : List Ent} {i j : Nat} {v : Ent} (hi : i < l.length) : eg (l.set i v) j = if i = j then v else eg l j := by
  simp only [eg, List.getD_eq_getElem?_getD, List.getElem?_set]
  split
  · simp
  · rfl
def W (x y : Ent) : Prop := btr y x = false
theorem W.trans {x y z : Ent} (h : W x y) (h2 : W y z) : W x z := btr_neg _ _ _ h2 h
theorem W.rfl' (x : Ent) : W x x := by
  unfold W
  cases e : btr x x with
  | false => rfl
  | true => have := btr_asym _ _ e; rw [e] at this; exact this
theorem W.of {x y : Ent} (h : btr x y = true) : W x y := btr_asym _ _ h
structure Pm (a b : Nat) (l l' : List Ent) : Prop where
  len : l'.length = l.length
  perm : l'.Perm l
  out : ∀ i, (i < a ∨ b ≤ i) → eg l' i = eg l i
  ins : ∀ i, a ≤ i → i < b → ∃ j, a ≤ j ∧ j < b ∧ eg l' i = eg l j
theorem Pm.rfl' (a b : Nat) (l : List Ent) : Pm a b l l := ⟨rfl, List.Perm.refl _, fun _ _ => rfl, fun i h h2 => ⟨i, h, h2, rfl⟩⟩
theorem Pm.trans {a b : Nat} {l l' l2 : List Ent} (h : Pm a b l l') (h2 : Pm a b l' l2) : Pm a b l l2 :=
  ⟨h2.len.trans h.len, h2.perm.trans h.perm, fun i hi => (h2.out i hi).trans (h.out i hi), fun i h0 h1 => by
    obtain ⟨j, j0, j1, e⟩ := h2.ins i h0 h1
    obtain ⟨j', k0, k1, e'⟩ := h.ins j j0 j1
    exact ⟨j', k0, k1, e.trans e'⟩⟩
theorem Pm.mono {a b a' b' : Nat} {l l' : List Ent} (h : Pm a b l l') (ha : a' ≤ a) (hb : b ≤ b') : Pm a' b' l l' :=
  ⟨h.len, h.perm, fun i hi => h.out i (by omega), fun i h0 h1 => by
    by_cases hi : a ≤ i ∧ i < b
    · obtain ⟨j, j0, j1, e⟩ := h.ins i hi.1 hi.2
      exact ⟨j, by omega, by omega, e⟩
    · exact ⟨i, h0, h1, h.out i (by omega)⟩⟩
abbrev sw (l : List Ent) (i j : Nat) : List Ent := (l.set i (eg l j)).set j (eg l i)
theorem sw_len {l : List Ent} {i j : Nat} : (sw l i j).length = l.length := by simp
theorem sw_eg {l : List Ent} {i j : Nat} (hi : i < l.length) (hj : j < l.length) (k : Nat) : eg (sw l i j) k = if j = k then eg l i else if i = k then eg l j else eg l k := by
  unfold sw
  rw [eg_set (by rw [List.length_set]; exact hj), eg_set hi]
theorem sw_pm {a b : Nat} {l : List Ent} {i j : Nat} (hb : b ≤ l.length) (h1 : a ≤ i) (h2 : i < b) (h3 : a ≤ j) (h4 : j < b) : Pm a b l (sw l i j) := by
  have hi : i < l.length := by omega
  have hj : j < l.length := by omega
  refine ⟨sw_len, ?_, fun k hk => ?_, fun k k0 k1 => ?_⟩
  · have := List.set_set_perm hi hj
    unfold sw
    rwa [show eg l j = l[j] from by simp [eg, List.getD_eq_getElem?_getD, hj], show eg l i = l[i] from by simp [eg, List.getD_eq_getElem?_getD, hi]]
  · rw [sw_eg hi hj, if_neg (by omega), if_neg (by omega)]
  · rw [sw_eg hi hj]
    by_cases e : j = k
    · rw [if_pos e]; exact ⟨i, h1, h2, rfl⟩
    · rw [if_neg e]
      by_cases e2 : i = k
      · rw [if_pos e2]; exact ⟨j, h3, h4, rfl⟩
      · rw [if_neg e2]; exact ⟨k, k0, k1, rfl⟩
def Srt (a b : Nat) (l : List Ent) : Prop := ∀ i j, a ≤ i → i < j → j < b → W (eg l i) (eg l j)
def Lft (a b : Nat) (l : List Ent) : Prop := ∀ i j, i < a → a ≤ j → j < b → W (eg l i) (eg l j)
theorem Lft.pm {a b : Nat} {l l' : List Ent} (h : Lft a b l) (p : Pm a b l l') : Lft a b l' := fun i j hi hj hjb => by
  obtain ⟨k, k0, k1, e⟩ := p.ins j hj hjb
  rw [p.out i (.inl hi), e]; exact h i k hi k0 k1
theorem cmp_t {x y : Ent} (h : btr x y = true) : F31 (entT x, entT y, ()) () = some (-1, ()) := by
  rw [F31]
  refine bind_of (f23_ok _ _ _ _ _ _ _ _) ?_
  exact if_pos h
theorem cmp_f {x y : Ent} (h : btr x y = false) : F31 (entT x, entT y, ()) () = some (1, ()) := by
  rw [F31]
  refine bind_of (f23_ok _ _ _ _ _ _ _ _) ?_
  exact if_neg (by rw [h]; decide)
theorem sub1 {i : Nat} (h : 0 < i) (hi : i < 4611686018427387904) : IntKind.wrap IntKind.i64 ((i : Int) - (1 : Int)) = ((i - 1 : Nat) : Int) := by
  rw [wi (by omega) (by omega)]; omega
theorem lt_c {i j : Nat} (h : i < j) : decide ((i : Int) < (j : Int)) = true := by rw [decide_eq_true_eq]; omega
theorem nlt_c {i j : Nat} (h : j ≤ i) : ¬ decide ((i : Int) < (j : Int)) = true := by rw [decide_eq_true_eq]; omega
theorem le_c {i j : Nat} (h : i ≤ j) : decide ((i : Int) ≤ (j : Int)) = true := by rw [decide_eq_true_eq]; omega
theorem nle_c {i j : Nat} (h : j < i) : ¬ decide ((i : Int) ≤ (j : Int)) = true := by rw [decide_eq_true_eq]; omega
def Evt {α : Type} (f : Nat → Option α) (r : α) : Prop := ∃ K, ∀ k, K ≤ k → f k = some r
theorem Evt.step {α : Type} {f g : Nat → Option α} {r : α} (h : Evt g r) (hs : ∀ k, f (k + 1) = g k) : Evt f r := by
  obtain ⟨K, hK⟩ := h
  refine ⟨K + 1, fun k hk => ?_⟩
  obtain ⟨k', rfl⟩ : ∃ k', k = k' + 1 := ⟨k - 1, by omega⟩
  rw [hs]; exact hK k' (by omega)
theorem Evt.now {α : Type} {f : Nat → Option α} {r : α} (hs : ∀ k, f (k + 1) = some r) : Evt f r := by
  refine ⟨1, fun k hk => ?_⟩
  obtain ⟨k', rfl⟩ : ∃ k', k = k' + 1 := ⟨k - 1, by omega⟩
  exact hs k'
def Ins (a b j : Nat) (l : List Ent) : Prop := ∀ p q, a ≤ p → p < q → q < b → q ≠ j → W (eg l p) (eg l q)
theorem Ins.done {a b j : Nat} {l : List Ent} (h : Ins a b j l) (hj : j ≤ a ∨ W (eg l (j - 1)) (eg l j)) : Srt a b l := fun p q hp hpq hq => by
  by_cases e : q = j
  · rcases hj with hj | hj
    · omega
    · subst e
      by_cases e2 : p = q - 1
      · rw [e2]; exact hj
      · exact (h p (q - 1) hp (by omega) (by omega) (by omega)).trans hj
  · exact h p q hp hpq hq e
theorem Ins.step {a b j : Nat} {l : List Ent} (h : Ins a b j l) (haj : a < j) (hj : j < b) (hb : b ≤ l.length) (hc : W (eg l j) (eg l (j - 1))) : Ins a b (j - 1) (sw l j (j - 1)) := fun p q hp hpq hq hne => by
  rw [sw_eg (by omega) (by omega), sw_eg (by omega) (by omega), if_neg (show ¬ j - 1 = q by omega)]
  by_cases e1 : j = q
  · rw [if_pos e1]
    by_cases e2 : j - 1 = p
    · rw [if_pos e2]; exact hc
    · rw [if_neg e2, if_neg (by omega)]; exact h p (j - 1) hp (by omega) (by omega) (by omega)
  · rw [if_neg e1]
    by_cases e2 : j - 1 = p
    · rw [if_pos e2]; exact h j q (by omega) (by omega) hq (by omega)
    · rw [if_neg e2]
      by_cases e3 : j = p
      · rw [if_pos e3]; exact h (j - 1) q (by omega) (by omega) hq (by omega)
      · rw [if_neg e3]; exact h p q hp hpq hq (by omega)
theorem Srt.ins {a i : Nat} {l : List Ent} (h : Srt a i l) : Ins a (i + 1) i l := fun p q hp hpq hq hne => h p q hp hpq (by omega)
section
variable {a b : Nat} (hbig : b < 1000000000)
include hbig
theorem ins_inner (R : List Ent → Prop) {i : Nat} (hib : i < b) : ∀ (j : Nat) (l : List Ent), b ≤ l.length → a ≤ j → j ≤ i → Ins a (i + 1) j l →
    (∀ l', Pm a b l l' → Srt a (i + 1) l' → ∃ l2, R l2 ∧ Evt (fun k => L47_1 k ((), (a : Int), (b : Int), (), ((i + 1 : Nat) : Int), ()) (l', ())) ((), l2, ())) →
    ∃ l2, R l2 ∧ Evt (fun k => L47_4 k ((), (a : Int), (b : Int), (), (i : Int), (j : Int), ()) (l, ())) ((), l2, ()) := by
  intro j
  induction j with
  | zero =>
    intro l hl haj hji hI hn
    obtain ⟨l2, h1, h2⟩ := hn l (Pm.rfl' ..) (hI.done (.inl (by omega)))
    refine ⟨l2, h1, h2.step fun k => ?_⟩
    rw [L47_4]
    simp only [add1 (show i < 4611686018427387904 by omega)]
    exact if_neg (nlt_c (by omega))
  | succ j ih =>
    intro l hl haj hji hI hn
    by_cases hj : a < j + 1
    rotate_left
    · obtain ⟨l2, h1, h2⟩ := hn l (Pm.rfl' ..) (hI.done (.inl (by omega)))
      refine ⟨l2, h1, h2.step fun k => ?_⟩
      rw [L47_4]
      simp only [add1 (show i < 4611686018427387904 by omega)]
      exact if_neg (nlt_c (by omega))
    have e1 : IntKind.wrap IntKind.i64 (((j + 1 : Nat) : Int) - (1 : Int)) = ((j : Nat) : Int) := sub1 (by omega) (by omega)
    cases hc : btr (eg l (j + 1)) (eg l j) with
    | false =>
      obtain ⟨l2, h1, h2⟩ := hn l (Pm.rfl' ..) (hI.done (.inr hc))
      refine ⟨l2, h1, h2.step fun k => ?_⟩
      rw [L47_4]
      simp only [add1 (show i < 4611686018427387904 by omega), e1]
      refine (if_pos (lt_c hj)).trans ((if_pos (inN (by omega))).trans ((if_pos (show j + 1 < l.length by omega)).trans ((if_pos (inN (by omega))).trans ((if_pos (show j < l.length by omega)).trans ?_))))
      refine bind_of (cmp_f hc) ?_
      exact if_neg (by decide)
    | true =>
      have hp : Pm a b l (sw l (j + 1) j) := sw_pm hl (by omega) (by omega) (by omega) (by omega)
      obtain ⟨l2, h1, h2⟩ := ih (sw l (j + 1) j) (by rw [sw_len]; exact hl) (by omega) (by omega) (hI.step (by omega) (by omega) (by omega) (W.of hc)) fun l' hl' hs => hn l' (hp.trans hl') hs
      refine ⟨l2, h1, h2.step fun k => ?_⟩
      rw [L47_4]
      simp only [add1 (show i < 4611686018427387904 by omega), e1]
      refine (if_pos (lt_c hj)).trans ((if_pos (inN (by omega))).trans ((if_pos (show j + 1 < l.length by omega)).trans ((if_pos (inN (by omega))).trans ((if_pos (show j < l.length by omega)).trans ?_))))
      refine bind_of (cmp_t hc) ?_
      simp only [List.length_set]
      exact (if_pos (by decide)).trans ((if_pos (inN (by omega))).trans ((if_pos (show j < l.length by omega)).trans ((if_pos (inN (by omega))).trans ((if_pos (show j + 1 < l.length by omega)).trans ((if_pos (inN (by omega))).trans ((if_pos (show j + 1 < l.length by omega)).trans ((if_pos (inN (by omega))).trans (if_pos (show j < l.length by omega)))))))))
theorem ins_outer (hab : a ≤ b) : ∀ (d i : Nat) (l : List Ent), i + d = b → b ≤ l.length → a ≤ i → Srt a i l →
    ∃ l2, (Pm a b l l2 ∧ Srt a b l2) ∧ Evt (fun k => L47_1 k ((), (a : Int), (b : Int), (), (i : Int), ()) (l, ())) ((), l2, ()) := by
  intro d
  induction d with
  | zero =>
    intro i l hd hl hi hs
    refine ⟨l, ⟨Pm.rfl' .., by rwa [show b = i by omega]⟩, .now fun k => ?_⟩
    rw [L47_1]
    exact if_neg (nlt_c (by omega))
  | succ d ih =>
    intro i l hd hl hi hs
    obtain ⟨l2, h1, h2⟩ := ins_inner hbig (fun l2 => Pm a b l l2 ∧ Srt a b l2) (show i < b by omega) i l hl hi (Nat.le_refl _) hs.ins fun l' hp hs' => by
      obtain ⟨l2, ⟨g1, g2⟩, g3⟩ := ih (i + 1) l' (by omega) (by rw [hp.len]; exact hl) (by omega) hs'
      exact ⟨l2, ⟨hp.trans g1, g2⟩, g3⟩
    refine ⟨l2, h1, h2.step fun k => ?_⟩
    rw [L47_1]
    exact if_pos (lt_c (by omega))
theorem insertion_ok (hab : a < b) {l : List Ent} (hl : b ≤ l.length) :
    ∃ l2, (Pm a b l l2 ∧ Srt a b l2) ∧ Evt (fun k => F47 k ((), (a : Int), (b : Int), (), ()) (l, ())) ((), l2, ()) := by
  obtain ⟨l2, h1, K, h2⟩ := ins_outer (a := a) hbig (by omega) (b - (a + 1)) (a + 1) l (show a + 1 + (b - (a + 1)) = b by omega) hl (by omega) (fun i j h0 h1 h2 => absurd h1 (by omega))
  refine ⟨l2, h1, K, fun k hk => ?_⟩
  show F47 k _ _ = _
  rw [F47]
  simp only [add1 (show a < 4611686018427387904 by omega)]
  exact h2 k hk
end
end Go.Eng.He

set_option linter.unusedVariables false
namespace Go.Eng.He
open Go Go.Eng Go.Proofs
theorem at1 {α : Type} {n i : Nat} (h : i < n) {x y z : α} : (if (0 : Int) ≤ (i : Int) ∧ (i : Int) < (n : Int) then if Int.toNat (i : Int) < n then x else y else z) = x :=
  (if_pos (inN h)).trans (if_pos h)
theorem addN {i j : Nat} (hi : i < 2305843009213693952) (hj : j < 2305843009213693952) : IntKind.wrap IntKind.i64 ((i : Int) + (j : Int)) = ((i + j : Nat) : Int) := by
  rw [wi (by omega) (by omega)]; omega
def Hq (f lo hi : Nat) (l : List Ent) : Prop := ∀ c, 0 < c → c < hi → lo ≤ (c - 1) / 2 → W (eg l (f + c)) (eg l (f + (c - 1) / 2))
structure Sf (f lo hi r : Nat) (l : List Ent) : Prop where
  ne : ∀ c, 0 < c → c < hi → lo ≤ (c - 1) / 2 → (c - 1) / 2 ≠ r → W (eg l (f + c)) (eg l (f + (c - 1) / 2))
  gr : ∀ c, 0 < c → c < hi → (c - 1) / 2 = r → 0 < r → lo ≤ (r - 1) / 2 → W (eg l (f + c)) (eg l (f + (r - 1) / 2))
theorem Hq.sf {f r hi : Nat} {l : List Ent} (h : Hq f (r + 1) hi l) : Sf f r hi r l :=
  ⟨fun c h0 h1 h2 h3 => h c h0 h1 (by omega), fun c h0 h1 h2 h3 h4 => absurd h4 (by omega)⟩
theorem Sf.done {f lo hi r : Nat} {l : List Ent} (h : Sf f lo hi r l) (hd : ∀ c, 0 < c → c < hi → (c - 1) / 2 = r → W (eg l (f + c)) (eg l (f + r))) : Hq f lo hi l := fun c h0 h1 h2 => by
  by_cases e : (c - 1) / 2 = r
  · rw [e]; exact hd c h0 h1 e
  · exact h.ne c h0 h1 h2 e
theorem Sf.step {f lo hi r c : Nat} {l : List Ent} (h : Sf f lo hi r l) (hlo : lo ≤ r) (hc0 : 0 < c) (hc : c < hi) (hp : (c - 1) / 2 = r) (hl : f + hi ≤ l.length) (hb : W (eg l (f + r)) (eg l (f + c)))
    (hs : ∀ s, 0 < s → s < hi → (s - 1) / 2 = r → W (eg l (f + s)) (eg l (f + c))) : Sf f lo hi c (sw l (f + r) (f + c)) := by
  constructor
  · intro d h0 h1 h2 h3
    rw [sw_eg (by omega) (by omega), sw_eg (by omega) (by omega), if_neg (show ¬ f + c = f + (d - 1) / 2 by omega)]
    by_cases e1 : c = d
    · subst e1
      rw [if_pos rfl, if_pos (by omega)]; exact hb
    · rw [if_neg (by omega)]
      by_cases e2 : r = d
      · subst e2
        rw [if_pos rfl, if_neg (by omega)]
        exact h.gr c hc0 hc hp h0 h2
      · rw [if_neg (by omega)]
        by_cases e3 : (d - 1) / 2 = r
        · rw [if_pos (by omega)]; exact hs d h0 h1 e3
        · rw [if_neg (by omega)]; exact h.ne d h0 h1 h2 e3
  · intro d h0 h1 h2 h3 h4
    rw [sw_eg (by omega) (by omega), sw_eg (by omega) (by omega), if_neg (show ¬ f + c = f + d by omega), if_neg (show ¬ f + r = f + d by omega), if_neg (show ¬ f + c = f + (c - 1) / 2 by omega), if_pos (by omega)]
    have := h.ne d h0 h1 (by omega) (by omega)
    rwa [h2] at this
theorem Hq.root {f hi : Nat} {l : List Ent} (h : Hq f 0 hi l) : ∀ c, c < hi → W (eg l (f + c)) (eg l f) := by
  intro c
  induction c using Nat.strongRecOn with
  | _ c ih =>
    intro hc
    by_cases h0 : c = 0
    · subst h0; exact W.rfl' _
    · exact (h c (by omega) hc (by omega)).trans (ih ((c - 1) / 2) (by omega) (by omega))
theorem sift_loop {f lo hi : Nat} (hbig : f + hi < 1000000000) : ∀ (d r : Nat) (l : List Ent), hi ≤ r + d → lo ≤ r → f + hi ≤ l.length → r ≤ hi → Sf f lo hi r l →
    ∃ l2, (Pm f (f + hi) l l2 ∧ Hq f lo hi l2) ∧ Evt (fun k => L57_1 k ((), (hi : Int), (f : Int), (), (r : Int), ()) (l, ())) ((), l2, ()) := by
  intro d
  induction d with
  | zero =>
    intro r l hd hlo hl hr hS
    refine ⟨l, ⟨Pm.rfl' .., hS.done fun c h0 h1 h2 => absurd h1 (by omega)⟩, .now fun k => ?_⟩
    rw [L57_1]
    simp only [dbl1 (show r < 2305843009213693952 by omega)]
    exact if_pos (le_c (by omega))
  | succ d ih =>
    intro r l hd hlo hl hr hS
    have w1 := dbl1 (show r < 2305843009213693952 by omega)
    have w2 : IntKind.wrap IntKind.i64 (((2 * r + 1 : Nat) : Int) + (1 : Int)) = ((2 * r + 2 : Nat) : Int) := add1 (by omega)
    by_cases h1 : hi ≤ 2 * r + 1
    · refine ⟨l, ⟨Pm.rfl' .., hS.done fun c g0 g1 g2 => absurd g1 (by omega)⟩, .now fun k => ?_⟩
      rw [L57_1]
      simp only [w1]
      exact if_pos (le_c h1)
    have a1 : IntKind.wrap IntKind.i64 ((f : Int) + ((2 * r + 1 : Nat) : Int)) = ((f + (2 * r + 1) : Nat) : Int) := addN (by omega) (by omega)
    have a2 : IntKind.wrap IntKind.i64 (((f + (2 * r + 1) : Nat) : Int) + (1 : Int)) = ((f + (2 * r + 2) : Nat) : Int) := add1 (by omega)
    have a3 : IntKind.wrap IntKind.i64 ((f : Int) + ((2 * r + 2 : Nat) : Int)) = ((f + (2 * r + 2) : Nat) : Int) := addN (by omega) (by omega)
    have a4 : IntKind.wrap IntKind.i64 ((f : Int) + (r : Int)) = ((f + r : Nat) : Int) := addN (by omega) (by omega)
    have q1 : f + (2 * r + 1) < l.length := by omega
    have q0 : f + r < l.length := by omega
    have next : ∀ c, 0 < c → c < hi → (c - 1) / 2 = r → btr (eg l (f + r)) (eg l (f + c)) = true → (∀ s, 0 < s → s < hi → (s - 1) / 2 = r → W (eg l (f + s)) (eg l (f + c))) →
        ∃ l2, (Pm f (f + hi) l l2 ∧ Hq f lo hi l2) ∧ Evt (fun k => L57_1 k ((), (hi : Int), (f : Int), (), (c : Int), ()) (sw l (f + r) (f + c), ())) ((), l2, ()) := fun c g0 g1 g2 g3 g4 => by
      obtain ⟨l2, ⟨p, h⟩, e⟩ := ih c (sw l (f + r) (f + c)) (by omega) (by omega) (by rw [sw_len]; omega) (by omega) (hS.step hlo g0 g1 g2 hl (W.of g3) g4)
      exact ⟨l2, ⟨(sw_pm (by omega) (by omega) (by omega) (by omega) (by omega)).trans p, h⟩, e⟩
    have stop : ∀ c, 0 < c → c < hi → (c - 1) / 2 = r → btr (eg l (f + r)) (eg l (f + c)) = false → (∀ s, 0 < s → s < hi → (s - 1) / 2 = r → W (eg l (f + s)) (eg l (f + c))) → Hq f lo hi l := fun c g0 g1 g2 g3 g4 =>
      hS.done fun s s0 s1 s2 => (g4 s s0 s1 s2).trans g3
    by_cases h2 : 2 * r + 2 < hi
    · have q2 : f + (2 * r + 2) < l.length := by omega
      cases hc : btr (eg l (f + (2 * r + 1))) (eg l (f + (2 * r + 2))) with
      | true =>
        have sib : ∀ s, 0 < s → s < hi → (s - 1) / 2 = r → W (eg l (f + s)) (eg l (f + (2 * r + 2))) := fun s s0 s1 s2 => by
          by_cases e : s = 2 * r + 2
          · rw [e]; exact W.rfl' _
          · rw [show s = 2 * r + 1 by omega]; exact W.of hc
        cases hc2 : btr (eg l (f + r)) (eg l (f + (2 * r + 2))) with
        | true =>
          obtain ⟨l2, g1, g2⟩ := next (2 * r + 2) (by omega) h2 (by omega) hc2 sib
          refine ⟨l2, g1, g2.step fun k => ?_⟩
          rw [L57_1]
          simp only [w1, w2, a1, a2, a3, a4, List.length_set]
          refine (if_neg (nle_c (by omega))).trans ((if_pos (lt_c h2)).trans ((at1 q1).trans ((at1 q2).trans ?_)))
          refine bind_of (cmp_t hc) ?_
          refine (if_pos (by decide)).trans ((at1 q0).trans ((at1 q2).trans ?_))
          refine bind_of (cmp_t hc2) ?_
          exact (if_neg (by decide)).trans ((at1 q2).trans ((at1 q0).trans ((at1 q0).trans (at1 q2))))
        | false =>
          refine ⟨l, ⟨Pm.rfl' .., stop (2 * r + 2) (by omega) h2 (by omega) hc2 sib⟩, .now fun k => ?_⟩
          rw [L57_1]
          simp only [w1, w2, a1, a2, a3, a4, List.length_set]
          refine (if_neg (nle_c (by omega))).trans ((if_pos (lt_c h2)).trans ((at1 q1).trans ((at1 q2).trans ?_)))
          refine bind_of (cmp_t hc) ?_
          refine (if_pos (by decide)).trans ((at1 q0).trans ((at1 q2).trans ?_))
          refine bind_of (cmp_f hc2) ?_
          exact if_pos (by decide)
      | false =>
        have sib : ∀ s, 0 < s → s < hi → (s - 1) / 2 = r → W (eg l (f + s)) (eg l (f + (2 * r + 1))) := fun s s0 s1 s2 => by
          by_cases e : s = 2 * r + 1
          · rw [e]; exact W.rfl' _
          · rw [show s = 2 * r + 2 by omega]; exact hc
        cases hc2 : btr (eg l (f + r)) (eg l (f + (2 * r + 1))) with
        | true =>
          obtain ⟨l2, g1, g2⟩ := next (2 * r + 1) (by omega) (by omega) (by omega) hc2 sib
          refine ⟨l2, g1, g2.step fun k => ?_⟩
          rw [L57_1]
          simp only [w1, w2, a1, a2, a3, a4, List.length_set]
          refine (if_neg (nle_c (by omega))).trans ((if_pos (lt_c h2)).trans ((at1 q1).trans ((at1 q2).trans ?_)))
          refine bind_of (cmp_f hc) ?_
          refine (if_neg (by decide)).trans ((at1 q0).trans ((at1 q1).trans ?_))
          refine bind_of (cmp_t hc2) ?_
          exact (if_neg (by decide)).trans ((at1 q1).trans ((at1 q0).trans ((at1 q0).trans (at1 q1))))
        | false =>
          refine ⟨l, ⟨Pm.rfl' .., stop (2 * r + 1) (by omega) (by omega) (by omega) hc2 sib⟩, .now fun k => ?_⟩
          rw [L57_1]
          simp only [w1, w2, a1, a2, a3, a4, List.length_set]
          refine (if_neg (nle_c (by omega))).trans ((if_pos (lt_c h2)).trans ((at1 q1).trans ((at1 q2).trans ?_)))
          refine bind_of (cmp_f hc) ?_
          refine (if_neg (by decide)).trans ((at1 q0).trans ((at1 q1).trans ?_))
          refine bind_of (cmp_f hc2) ?_
          exact if_pos (by decide)
    · have sib : ∀ s, 0 < s → s < hi → (s - 1) / 2 = r → W (eg l (f + s)) (eg l (f + (2 * r + 1))) := fun s s0 s1 s2 => by
        rw [show s = 2 * r + 1 by omega]; exact W.rfl' _
      cases hc2 : btr (eg l (f + r)) (eg l (f + (2 * r + 1))) with
      | true =>
        obtain ⟨l2, g1, g2⟩ := next (2 * r + 1) (by omega) (by omega) (by omega) hc2 sib
        refine ⟨l2, g1, g2.step fun k => ?_⟩
        rw [L57_1]
        simp only [w1, w2, a1, a2, a3, a4, List.length_set]
        refine (if_neg (nle_c (by omega))).trans ((if_neg (nlt_c (by omega))).trans ((at1 q0).trans ((at1 q1).trans ?_)))
        refine bind_of (cmp_t hc2) ?_
        exact (if_neg (by decide)).trans ((at1 q1).trans ((at1 q0).trans ((at1 q0).trans (at1 q1))))
      | false =>
        refine ⟨l, ⟨Pm.rfl' .., stop (2 * r + 1) (by omega) (by omega) (by omega) hc2 sib⟩, .now fun k => ?_⟩
        rw [L57_1]
        simp only [w1, w2, a1, a2, a3, a4, List.length_set]
        refine (if_neg (nle_c (by omega))).trans ((if_neg (nlt_c (by omega))).trans ((at1 q0).trans ((at1 q1).trans ?_)))
        refine bind_of (cmp_f hc2) ?_
        exact if_pos (by decide)
theorem sift_ok {f hi r : Nat} (hbig : f + hi < 1000000000) {l : List Ent} (hl : f + hi ≤ l.length) (hr : r ≤ hi) (h : Hq f (r + 1) hi l) :
    ∃ l2, (Pm f (f + hi) l l2 ∧ Hq f r hi l2) ∧ Evt (fun k => F57 k ((), (r : Int), (hi : Int), (f : Int), (), ()) (l, ())) ((), l2, ()) := by
  obtain ⟨l2, h1, K, h2⟩ := sift_loop (lo := r) hbig hi r l (by omega) (Nat.le_refl _) hl hr h.sf
  refine ⟨l2, h1, K, fun k hk => ?_⟩
  show F57 k _ _ = _
  rw [F57]
  exact h2 k hk
def Ev2 {α : Type} (f : Nat → Nat → Option α) (r : α) : Prop := ∃ K, ∀ K', K ≤ K' → ∀ k, K ≤ k → f K' k = some r
theorem Ev2.step {α β : Type} {f : Nat → Nat → Option α} {g : Nat → Option β} {h : Nat → Nat → Option α} {v : β} {r : α} (h1 : Evt g v) (h2 : Ev2 h r) (hs : ∀ K k, g K = some v → f K (k + 1) = h K k) : Ev2 f r := by
  obtain ⟨K1, h1⟩ := h1
  obtain ⟨K2, h2⟩ := h2
  refine ⟨K1 + K2 + 1, fun K hK k hk => ?_⟩
  obtain ⟨k', rfl⟩ : ∃ k', k = k' + 1 := ⟨k - 1, by omega⟩
  rw [hs K k' (h1 K (by omega))]; exact h2 K (by omega) k' (by omega)
theorem Ev2.step0 {α : Type} {f h : Nat → Nat → Option α} {r : α} (h2 : Ev2 h r) (hs : ∀ K k, f K (k + 1) = h K k) : Ev2 f r := by
  obtain ⟨K2, h2⟩ := h2
  refine ⟨K2 + 1, fun K hK k hk => ?_⟩
  obtain ⟨k', rfl⟩ : ∃ k', k = k' + 1 := ⟨k - 1, by omega⟩
  rw [hs K k']; exact h2 K (by omega) k' (by omega)
theorem Ev2.now {α : Type} {f : Nat → Nat → Option α} {r : α} (hs : ∀ K k, f K (k + 1) = some r) : Ev2 f r := by
  refine ⟨1, fun K hK k hk => ?_⟩
  obtain ⟨k', rfl⟩ : ∃ k', k = k' + 1 := ⟨k - 1, by omega⟩
  exact hs K k'
theorem Ev2.diag {α : Type} {f : Nat → Nat → Option α} {r : α} (h : Ev2 f r) : Evt (fun k => f k k) r := by
  obtain ⟨K, h⟩ := h
  exact ⟨K, fun k hk => h k hk k hk⟩
theorem Pm.srt_right {f m hi : Nat} {l l' : List Ent} (p : Pm f (f + m) l l') (h : Srt (f + m) (f + hi) l) : Srt (f + m) (f + hi) l' := fun i j h0 h1 h2 => by
  rw [p.out i (.inr h0), p.out j (.inr (by omega))]; exact h i j h0 h1 h2
theorem out_loop {f hi : Nat} (hbig : f + hi < 1000000000) : ∀ (m : Nat) (z : Int) (l : List Ent), z = (m : Int) - 1 → m ≤ hi → f + hi ≤ l.length → Hq f 0 m l → Srt (f + m) (f + hi) l → (∀ c q, c < m → m ≤ q → q < hi → W (eg l (f + c)) (eg l (f + q))) →
    ∃ l2, (Pm f (f + hi) l l2 ∧ Srt f (f + hi) l2) ∧ Ev2 (fun K k => L48_8 K k ((), (), (f : Int), (0 : Int), z, ()) (l, ())) ((), l2, ()) := by
  intro m
  induction m with
  | zero =>
    intro z l hz hm hl hh hs hx
    refine ⟨l, ⟨Pm.rfl' .., hs⟩, .now fun K k => ?_⟩
    rw [L48_8]
    exact if_neg (by rw [decide_eq_true_eq]; omega)
  | succ m ih =>
    intro z l hz hm hl hh hs hx
    obtain rfl : z = (m : Int) := by omega
    have w1 : IntKind.wrap IntKind.i64 ((f : Int) + (m : Int)) = ((f + m : Nat) : Int) := addN (by omega) (by omega)
    have q0 : f < l.length := by omega
    have q1 : f + m < l.length := by omega
    have p1 : Pm f (f + (m + 1)) l (sw l f (f + m)) := sw_pm (by omega) (Nat.le_refl _) (by omega) (by omega) (by omega)
    have hsw : Hq f 1 m (sw l f (f + m)) := fun c h0 h1 h2 => by
      rw [sw_eg q0 q1, sw_eg q0 q1, if_neg (by omega), if_neg (by omega), if_neg (by omega), if_neg (by omega)]
      exact hh c h0 (by omega) (by omega)
    obtain ⟨l1, ⟨p2, hh2⟩, e2⟩ := sift_ok (r := 0) (hi := m) (f := f) (by omega) (l := sw l f (f + m)) (by rw [sw_len]; omega) (by omega) hsw
    have elast : eg l1 (f + m) = eg l f := by rw [p2.out _ (.inr (Nat.le_refl _)), sw_eg q0 q1, if_pos rfl]
    have erest : ∀ q, m + 1 ≤ q → eg l1 (f + q) = eg l (f + q) := fun q hq => by rw [p2.out _ (.inr (by omega)), p1.out _ (.inr (by omega))]
    have ein : ∀ c, c < m → ∃ c', c' < m + 1 ∧ eg l1 (f + c) = eg l (f + c') := fun c hc => by
      obtain ⟨j, j0, j1, e⟩ := p2.ins (f + c) (by omega) (by omega)
      obtain ⟨j', k0, k1, e'⟩ := p1.ins j j0 (by omega)
      exact ⟨j' - f, by omega, by rw [e, e', show f + (j' - f) = j' by omega]⟩
    obtain ⟨l2, ⟨p3, hs3⟩, e3⟩ := ih (IntKind.wrap IntKind.i64 ((m : Int) - (1 : Int))) l1 (wi (by omega) (by omega)) (by omega) (by rw [p2.len, sw_len]; exact hl) hh2 (fun i j h0 h1 h2 => by
        rw [show j = f + (j - f) by omega, erest (j - f) (by omega)]
        by_cases e : i = f + m
        · rw [e, elast]; exact hx 0 (j - f) (by omega) (by omega) (by omega)
        · rw [show i = f + (i - f) by omega, erest (i - f) (by omega), show f + (i - f) = i by omega, show f + (j - f) = j by omega]; exact hs i j (by omega) h1 h2)
      (fun c q hc hq hqh => by
        obtain ⟨c', hc', e⟩ := ein c hc
        rw [e]
        by_cases e2 : q = m
        · rw [e2, elast]; exact hh.root c' hc'
        · rw [erest q (by omega)]; exact hx c' q hc' (by omega) hqh)
    refine ⟨l2, ⟨((p1.mono (Nat.le_refl _) (by omega)).trans (p2.mono (Nat.le_refl _) (by omega))).trans p3, hs3⟩, .step e2 e3 fun K k e => ?_⟩
    rw [L48_8]
    simp only [w1, List.length_set]
    refine (if_pos (by rw [decide_eq_true_eq]; omega)).trans ((at1 q1).trans ((at1 q0).trans ((at1 q0).trans ((at1 q1).trans ?_))))
    exact bind_of e rfl
theorem up_loop {f hi : Nat} (hbig : f + hi < 1000000000) : ∀ (m : Nat) (z : Int) (l : List Ent), z = (m : Int) - 1 → m ≤ hi → f + hi ≤ l.length → Hq f m hi l →
    ∃ l2, (Pm f (f + hi) l l2 ∧ Srt f (f + hi) l2) ∧ Ev2 (fun K k => L48_4 K k ((), (), (f : Int), (0 : Int), (hi : Int), z, ()) (l, ())) ((), l2, ()) := by
  intro m
  induction m with
  | zero =>
    intro z l hz hm hl hh
    obtain ⟨l2, h1, h2⟩ := out_loop hbig hi (IntKind.wrap IntKind.i64 ((hi : Int) - (1 : Int))) l (wi (by omega) (by omega)) (Nat.le_refl _) hl hh (fun i j h0 h1 h2 => absurd h2 (by omega)) (fun c q h0 h1 h2 => absurd h2 (by omega))
    refine ⟨l2, h1, h2.step0 fun K k => ?_⟩
    rw [L48_4]
    exact if_neg (by rw [decide_eq_true_eq]; omega)
  | succ m ih =>
    intro z l hz hm hl hh
    obtain rfl : z = (m : Int) := by omega
    obtain ⟨l1, ⟨p1, hh1⟩, e1⟩ := sift_ok (r := m) hbig hl (by omega) hh
    obtain ⟨l2, ⟨p2, hs2⟩, e2⟩ := ih (IntKind.wrap IntKind.i64 ((m : Int) - (1 : Int))) l1 (wi (by omega) (by omega)) (by omega) (by rw [p1.len]; exact hl) hh1
    refine ⟨l2, ⟨p1.trans p2, hs2⟩, .step e1 e2 fun K k e => ?_⟩
    rw [L48_4]
    exact (if_pos (by rw [decide_eq_true_eq]; omega)).trans (bind_of e rfl)
theorem heapsort_ok {a b : Nat} (hbig : b < 1000000000) (hab : a < b) {l : List Ent} (hl : b ≤ l.length) :
    ∃ l2, (Pm a b l l2 ∧ Srt a b l2) ∧ Evt (fun k => F48 k ((), (a : Int), (b : Int), (), ()) (l, ())) ((), l2, ()) := by
  obtain ⟨l2, h1, h2⟩ := up_loop (f := a) (hi := b - a) (by omega) ((b - a - 1) / 2 + 1) (((b - a - 1) / 2 : Nat) : Int) l (by omega) (by omega) (by omega) (fun c h0 h1 h2 => absurd h1 (by omega))
  rw [show a + (b - a) = b by omega] at h1
  obtain ⟨K, h3⟩ := h2.diag
  refine ⟨l2, h1, K, fun k hk => ?_⟩
  show F48 k _ _ = _
  rw [F48]
  have w1 : IntKind.wrap IntKind.i64 ((b : Int) - (a : Int)) = ((b - a : Nat) : Int) := by rw [wi (by omega) (by omega)]; omega
  have w2 : IntKind.wrap IntKind.i64 (Int.tdiv (IntKind.wrap IntKind.i64 (((b - a : Nat) : Int) - (1 : Int))) (2 : Int)) = (((b - a - 1) / 2 : Nat) : Int) := tdiv2 (by omega) (by omega)
  simp only [w1, w2]
  exact h3 k hk
end Go.Eng.He

set_option linter.unusedVariables false
namespace Go.Eng.He
open Go Go.Eng Go.Proofs
theorem wrapU (n : Int) : IntKind.wrap IntKind.u64 n = n % 18446744073709551616 := rfl
theorem shlw (x : Nat) {n : Nat} (hn : n ≤ 64) : shl' IntKind.u64 (x : Int) (n : Int) = ((x * 2 ^ n % 18446744073709551616 : Nat) : Int) := by
  unfold shl'
  rw [wrapU]
  show (x : Int) * 2 ^ (min n 64) % 18446744073709551616 = _
  rw [Nat.min_eq_left hn]
  have e : ((2 : Int) ^ n) = ((2 ^ n : Nat) : Int) := by simp
  rw [e, ← Int.natCast_mul]
  exact (Int.natCast_emod _ _).symm
theorem shrw (x : Nat) {n : Nat} (hn : n ≤ 64) : shr' IntKind.u64 (x : Int) (n : Int) = ((x / 2 ^ n : Nat) : Int) := by
  unfold shr'
  show (x : Int).fdiv (2 ^ (min n 64)) = _
  rw [Nat.min_eq_left hn, Int.fdiv_eq_ediv_of_nonneg _ (Int.le_of_lt (Int.pow_pos (by decide)))]
  have e : ((2 : Int) ^ n) = ((2 ^ n : Nat) : Int) := by simp
  rw [e]; exact (Int.natCast_ediv _ _).symm
theorem tab_all : (List.range 256).all (fun h => decide (0 ≤ tab56_0.getD h 0 ∧ tab56_0.getD h 0 ≤ 8 ∧ h < 2 ^ (tab56_0.getD h 0).toNat ∧ (h = 0 ∨ 2 ^ (tab56_0.getD h 0).toNat ≤ 2 * h))) = true := by kernel_rfl
theorem tab_at {h : Nat} (hh : h < 256) (h0 : 1 ≤ h) : ∃ t : Nat, tab56_0.getD h 0 = (t : Int) ∧ t ≤ 8 ∧ h < 2 ^ t ∧ 2 ^ t ≤ 2 * h := by
  have := List.all_eq_true.1 tab_all h (List.mem_range.2 hh)
  rw [decide_eq_true_eq] at this
  obtain ⟨h1, h2, h3, h4⟩ := this
  exact ⟨(tab56_0.getD h 0).toNat, by omega, by omega, h3, h4.resolve_left (by omega)⟩
theorem wu8 {h : Nat} (hh : h < 256) : IntKind.wrap IntKind.u8 (h : Int) = (h : Int) := by rw [IntKind.wrap_u8]; omega
theorem lenX {h : Nat} (hh : h < 256) {t : Nat} (ht : tab56_0.getD h 0 = (t : Int)) (h8 : t ≤ 8) (c : Nat) (hc : c ≤ 100) : (if (0 : Int) ≤ IntKind.wrap IntKind.u8 (h : Int) ∧ IntKind.wrap IntKind.u8 (h : Int) < (256 : Int) then some (IntKind.wrap IntKind.i64 ((c : Int) + IntKind.wrap IntKind.i64 (List.getD tab56_0 (Int.toNat (IntKind.wrap IntKind.u8 (h : Int))) (0 : Int))), ()) else none) = some (((c + t : Nat) : Int), ()) := by
  rw [wu8 hh, if_pos (by omega), show Int.toNat (h : Int) = h from rfl, ht, wi (n := (t : Int)) (by omega) (by omega), wi (by omega) (by omega)]
  rfl
theorem len64_ok {n : Nat} (h1 : 1 ≤ n) (h2 : n < 16777216) : ∃ s : Nat, F44 ((n : Int), ()) () = some ((s : Int), ()) ∧ s ≤ 24 ∧ n < 2 ^ s ∧ 2 ^ s ≤ 2 * n := by
  have key : ∃ s : Nat, F56 ((n : Int), ()) () = some ((s : Int), ()) ∧ s ≤ 24 ∧ n < 2 ^ s ∧ 2 ^ s ≤ 2 * n := by
    rw [F56]
    have n1 : ¬ decide ((4294967296 : Int) ≤ (n : Int)) = true := by rw [decide_eq_true_eq]; omega
    rw [if_neg n1]
    by_cases h3 : 65536 ≤ n
    · have e : shr' IntKind.u64 (n : Int) (16 : Int) = ((n / 65536 : Nat) : Int) := shrw n (n := 16) (by decide)
      have hh : n / 65536 < 256 := by omega
      obtain ⟨t, ht, t8, l1, l2⟩ := tab_at hh (by omega)
      refine ⟨16 + t, ?_, by omega, ?_, ?_⟩
      · rw [if_pos (by rw [decide_eq_true_eq]; omega), e, if_neg (by rw [decide_eq_true_eq]; omega)]
        exact lenX hh ht t8 16 (by decide)
      · rw [Nat.pow_add]; omega
      · rw [Nat.pow_add]; omega
    · rw [if_neg (by rw [decide_eq_true_eq]; omega)]
      by_cases h4 : 256 ≤ n
      · have e : shr' IntKind.u64 (n : Int) (8 : Int) = ((n / 256 : Nat) : Int) := shrw n (n := 8) (by decide)
        have hh : n / 256 < 256 := by omega
        obtain ⟨t, ht, t8, l1, l2⟩ := tab_at hh (by omega)
        refine ⟨8 + t, ?_, by omega, ?_, ?_⟩
        · rw [if_pos (by rw [decide_eq_true_eq]; omega), e]
          exact lenX hh ht t8 8 (by decide)
        · rw [Nat.pow_add]; omega
        · rw [Nat.pow_add]; omega
      · have hh : n < 256 := by omega
        obtain ⟨t, ht, t8, l1, l2⟩ := tab_at hh h1
        refine ⟨t, ?_, by omega, l1, l2⟩
        rw [if_neg (by rw [decide_eq_true_eq]; omega)]
        have := lenX hh ht t8 0 (by decide)
        rw [Nat.zero_add] at this
        exact this
  obtain ⟨s, e, r⟩ := key
  refine ⟨s, ?_, r⟩
  rw [F44]
  exact bind_of e rfl
theorem wu64 {n : Nat} (h : n < 18446744073709551616) : IntKind.wrap IntKind.u64 (n : Int) = (n : Int) := by rw [wrapU]; omega
theorem pow2_ok {n : Nat} (h1 : 1 ≤ n) (h2 : n < 16777216) : ∃ M : Nat, F58 ((n : Int), ()) () = some ((M : Int), ()) ∧ 1 ≤ M ∧ M ≤ 2 * n := by
  obtain ⟨s, e, h3, h4, h5⟩ := len64_ok h1 h2
  refine ⟨2 ^ s, ?_, by omega, h5⟩
  rw [F58, wu64 (by omega)]
  refine bind_of e ?_
  refine (if_neg (show ¬ ((s : Int) < 0) by omega)).trans ?_
  have := shlw 1 (n := s) (by omega)
  rw [Nat.one_mul, Nat.mod_eq_of_lt (by omega)] at this
  exact congrArg (fun x => some (x, ())) this
theorem and_lt (v : Int) {M : Nat} (h1 : 1 ≤ M) (h2 : M < 1000000000) : ∃ o : Nat, o < M ∧ IntKind.wrap IntKind.i64 (IntKind.wrap IntKind.u64 (↑(BitVec.toNat (BitVec.ofInt (64 : Nat) v &&& BitVec.ofInt (64 : Nat) (IntKind.wrap IntKind.u64 ((M : Int) - (1 : Int))))) : Int)) = (o : Int) := by
  have e : IntKind.wrap IntKind.u64 ((M : Int) - (1 : Int)) = ((M - 1 : Nat) : Int) := by rw [wrapU]; omega
  rw [e, BitVec.toNat_and]
  have e2 : (BitVec.ofInt 64 ((M - 1 : Nat) : Int)).toNat = M - 1 := by
    rw [BitVec.ofInt_natCast, BitVec.toNat_ofNat, Nat.mod_eq_of_lt (by omega)]
  rw [e2]
  have hle : (BitVec.ofInt 64 v).toNat &&& (M - 1) ≤ M - 1 := Nat.and_le_right
  refine ⟨(BitVec.ofInt 64 v).toNat &&& (M - 1), by omega, ?_⟩
  rw [wu64 (by omega), wi (by omega) (by omega)]
theorem quart {a b m : Nat} (hab : a ≤ b) (hb : b < 1000000000) (hm : m ≤ 3) : IntKind.wrap IntKind.i64 ((a : Int) + IntKind.wrap IntKind.i64 (IntKind.wrap IntKind.i64 (Int.tdiv ((b - a : Nat) : Int) (4 : Int)) * (m : Int))) = ((a + (b - a) / 4 * m : Nat) : Int) := by
  have hq : (b - a) / 4 * m ≤ (b - a) / 4 * 3 := Nat.mul_le_mul_left _ hm
  have e : Int.tdiv ((b - a : Nat) : Int) (4 : Int) = (((b - a) / 4 : Nat) : Int) := by rw [Int.tdiv_eq_ediv_of_nonneg (by omega)]; omega
  rw [e, wi (n := (((b - a) / 4 : Nat) : Int)) (by omega) (by omega), ← Int.natCast_mul]
  generalize (b - a) / 4 * m = q at hq
  rw [wi (n := (q : Int)) (by omega) (by omega), wi (by omega) (by omega)]
  omega
theorem subN {a b : Nat} (h : a ≤ b) (hb : b < 1000000000) : IntKind.wrap IntKind.i64 ((b : Int) - (a : Int)) = ((b - a : Nat) : Int) := by rw [wi (by omega) (by omega)]; omega
theorem break_loop {a b M : Nat} (hb : b < 100000000) (h8 : a + 8 ≤ b) (hM : 1 ≤ M) (hM2 : M ≤ 2 * (b - a)) : ∀ (d i : Nat) (l : List Ent) (s : Int), i + d = a + (b - a) / 4 * 2 + 2 → a ≤ i → b ≤ l.length →
    ∃ l2, Pm a b l l2 ∧ Evt (fun k => L49_5 k ((), (a : Int), ((b - a : Nat) : Int), (), (M : Int), (i : Int), ()) (l, (s, ()), ())) ((), l2, ()) := by
  intro d
  have wq : IntKind.wrap IntKind.i64 ((a : Int) + IntKind.wrap IntKind.i64 (IntKind.wrap IntKind.i64 (Int.tdiv ((b - a : Nat) : Int) (4 : Int)) * (2 : Int))) = ((a + (b - a) / 4 * 2 : Nat) : Int) := quart (by omega) (by omega) (m := 2) (by decide)
  have wq1 : IntKind.wrap IntKind.i64 (((a + (b - a) / 4 * 2 : Nat) : Int) + (1 : Int)) = ((a + (b - a) / 4 * 2 + 1 : Nat) : Int) := add1 (by omega)
  induction d with
  | zero =>
    intro i l s hd hi hl
    refine ⟨l, Pm.rfl' .., .now fun k => ?_⟩
    rw [L49_5]
    simp only [wq, wq1]
    exact if_neg (nle_c (by omega))
  | succ d ih =>
    intro i l s hd hi hl
    obtain ⟨v, s', e⟩ : ∃ v s', F59 ((), ()) ((s, ()), ()) = some (v, (s', ()), ()) := ⟨_, _, rfl⟩
    obtain ⟨o, ho, eo⟩ := and_lt v hM (by omega)
    have qi : i < l.length := by omega
    have go : ∀ p, a ≤ p → p < b → ∃ l2, Pm a b l l2 ∧ Evt (fun k => L49_5 k ((), (a : Int), ((b - a : Nat) : Int), (), (M : Int), ((i + 1 : Nat) : Int), ()) (sw l i p, (s', ()), ())) ((), l2, ()) := fun p h1 h2 => by
      have p0 : Pm a b l (sw l i p) := sw_pm hl hi (by omega) h1 h2
      obtain ⟨l2, p1, e1⟩ := ih (i + 1) (sw l i p) s' (by omega) (by omega) (by rw [sw_len]; exact hl)
      exact ⟨l2, p0.trans p1, e1⟩
    by_cases hc : b - a ≤ o
    · have w1 : IntKind.wrap IntKind.i64 ((o : Int) - ((b - a : Nat) : Int)) = ((o - (b - a) : Nat) : Int) := subN hc (by omega)
      have w2 : IntKind.wrap IntKind.i64 ((a : Int) + ((o - (b - a) : Nat) : Int)) = ((a + (o - (b - a)) : Nat) : Int) := addN (by omega) (by omega)
      obtain ⟨l2, p1, e1⟩ := go (a + (o - (b - a))) (by omega) (by omega)
      refine ⟨l2, p1, e1.step fun k => ?_⟩
      rw [L49_5]
      simp only [wq, wq1]
      refine (if_pos (le_c (by omega))).trans (bind_of e ?_)
      have q1 : a + (o - (b - a)) < l.length := by omega
      simp only [eo, w1, w2, List.length_set, add1 (show i < 4611686018427387904 by omega)]
      exact (if_pos (le_c hc)).trans ((at1 q1).trans ((at1 qi).trans ((at1 qi).trans (at1 q1))))
    · have w2 : IntKind.wrap IntKind.i64 ((a : Int) + (o : Int)) = ((a + o : Nat) : Int) := addN (by omega) (by omega)
      obtain ⟨l2, p1, e1⟩ := go (a + o) (by omega) (by omega)
      refine ⟨l2, p1, e1.step fun k => ?_⟩
      rw [L49_5]
      simp only [wq, wq1]
      refine (if_pos (le_c (by omega))).trans (bind_of e ?_)
      have q1 : a + o < l.length := by omega
      simp only [eo, w2, List.length_set, add1 (show i < 4611686018427387904 by omega)]
      exact (if_neg (nle_c (by omega))).trans ((at1 q1).trans ((at1 qi).trans ((at1 qi).trans (at1 q1))))
theorem break_ok {a b : Nat} (hb : b < 16777216) (h8 : a + 8 ≤ b) {l : List Ent} (hl : b ≤ l.length) :
    ∃ l2, Pm a b l l2 ∧ Evt (fun k => F49 k ((), (a : Int), (b : Int), (), ()) (l, ())) ((), l2, ()) := by
  obtain ⟨M, e, hM, hM2⟩ := pow2_ok (n := b - a) (by omega) (by omega)
  obtain ⟨l2, p, K, h⟩ := break_loop (by omega) h8 hM hM2 3 (a + (b - a) / 4 * 2 - 1) l (IntKind.wrap IntKind.u64 ((b - a : Nat) : Int)) (by omega) (by omega) hl
  refine ⟨l2, p, K, fun k hk => ?_⟩
  show F49 k _ _ = _
  rw [F49]
  have wq : IntKind.wrap IntKind.i64 ((a : Int) + IntKind.wrap IntKind.i64 (IntKind.wrap IntKind.i64 (Int.tdiv ((b - a : Nat) : Int) (4 : Int)) * (2 : Int))) = ((a + (b - a) / 4 * 2 : Nat) : Int) := quart (by omega) (by omega) (m := 2) (by decide)
  have wq1 : IntKind.wrap IntKind.i64 (((a + (b - a) / 4 * 2 : Nat) : Int) - (1 : Int)) = ((a + (b - a) / 4 * 2 - 1 : Nat) : Int) := sub1 (by omega) (by omega)
  simp only [subN (show a ≤ b by omega) (show b < 1000000000 by omega), wq, wq1]
  refine (if_pos (by rw [decide_eq_true_eq]; omega)).trans (bind_of e ?_)
  exact h k hk
theorem rev_loop {a b : Nat} (hb : b < 1000000000) : ∀ (d i j : Nat) (l : List Ent), j ≤ i + d → a ≤ i → j < b → b ≤ l.length →
    ∃ l2, Pm a b l l2 ∧ Evt (fun k => L51_2 k ((), (i : Int), (j : Int), ()) (l, ())) ((), l2, ()) := by
  intro d
  induction d with
  | zero =>
    intro i j l hd hi hj hl
    refine ⟨l, Pm.rfl' .., .now fun k => ?_⟩
    rw [L51_2]
    exact if_neg (nlt_c (by omega))
  | succ d ih =>
    intro i j l hd hi hj hl
    by_cases hc : i < j
    · have p0 : Pm a b l (sw l i j) := sw_pm hl hi (by omega) (by omega) hj
      obtain ⟨l2, p1, e1⟩ := ih (i + 1) (j - 1) (sw l i j) (by omega) (by omega) (by omega) (by rw [sw_len]; exact hl)
      refine ⟨l2, p0.trans p1, e1.step fun k => ?_⟩
      have qi : i < l.length := by omega
      have qj : j < l.length := by omega
      rw [L51_2]
      simp only [add1 (show i < 4611686018427387904 by omega), sub1 (show 0 < j by omega) (show j < 4611686018427387904 by omega), List.length_set]
      exact (if_pos (lt_c hc)).trans ((at1 qj).trans ((at1 qi).trans ((at1 qi).trans (at1 qj))))
    · refine ⟨l, Pm.rfl' .., .now fun k => ?_⟩
      rw [L51_2]
      exact if_neg (nlt_c (by omega))
theorem rev_ok {a b : Nat} (hb : b < 1000000000) (hab : a < b) {l : List Ent} (hl : b ≤ l.length) :
    ∃ l2, Pm a b l l2 ∧ Evt (fun k => F51 k ((), (a : Int), (b : Int), (), ()) (l, ())) ((), l2, ()) := by
  obtain ⟨l2, p, K, h⟩ := rev_loop hb (b - 1 - a) a (b - 1) l (by omega) (Nat.le_refl _) (by omega) hl
  refine ⟨l2, p, K, fun k hk => ?_⟩
  show F51 k _ _ = _
  rw [F51]
  simp only [sub1 (show 0 < b by omega) (show b < 4611686018427387904 by omega)]
  exact h k hk
theorem order_ok {l : List Ent} {i j : Nat} {n : Int} (hi : i < l.length) (hj : j < l.length) : ∃ (x y : Nat) (n' : Int), F62 ((), (i : Int), (j : Int), (), (), ()) (l, (n, ()), ()) = some (((x : Int), (y : Int), ()), l, (n', ()), ()) ∧ ((x = i ∧ y = j) ∨ (x = j ∧ y = i)) := by
  cases hc : btr (eg l j) (eg l i) with
  | true =>
    refine ⟨j, i, IntKind.wrap IntKind.i64 (n + (1 : Int)), ?_, .inr ⟨rfl, rfl⟩⟩
    rw [F62]
    refine (at1 hj).trans ((at1 hi).trans ?_)
    refine bind_of (cmp_t hc) ?_
    exact if_pos (by decide)
  | false =>
    refine ⟨i, j, n, ?_, .inl ⟨rfl, rfl⟩⟩
    rw [F62]
    refine (at1 hj).trans ((at1 hi).trans ?_)
    refine bind_of (cmp_f hc) ?_
    exact if_neg (by decide)
theorem median_ok {l : List Ent} {i j m : Nat} {n : Int} (hi : i < l.length) (hj : j < l.length) (hm : m < l.length) : ∃ (x : Nat) (n' : Int), F61 ((), (i : Int), (j : Int), (m : Int), (), (), ()) (l, (n, ()), ()) = some ((x : Int), l, (n', ()), ()) ∧ (x = i ∨ x = j ∨ x = m) := by
  obtain ⟨x1, y1, n1, e1, h1⟩ := order_ok (l := l) (n := n) hi hj
  obtain ⟨x2, y2, n2, e2, h2⟩ := order_ok (l := l) (i := y1) (j := m) (n := n1) (by omega) hm
  obtain ⟨x3, y3, n3, e3, h3⟩ := order_ok (l := l) (i := x1) (j := x2) (n := n2) (by omega) (by omega)
  refine ⟨y3, n3, ?_, by omega⟩
  rw [F61]
  refine bind_of e1 (bind_of e2 (bind_of e3 ?_))
  rfl
theorem medadj_ok {l : List Ent} {i : Nat} {n : Int} (h0 : 1 ≤ i) (hi : i + 1 < l.length) (hb : l.length < 1000000000) : ∃ (x : Nat) (n' : Int), F60 ((), (i : Int), (), (), ()) (l, (n, ()), ()) = some ((x : Int), l, (n', ()), ()) ∧ i - 1 ≤ x ∧ x ≤ i + 1 := by
  obtain ⟨x, n', e, h⟩ := median_ok (i := i - 1) (j := i) (m := i + 1) (n := n) (l := l) (by omega) (by omega) hi
  refine ⟨x, n', ?_, by omega, by omega⟩
  rw [F60]
  simp only [add1 (show i < 4611686018427387904 by omega), sub1 (show 0 < i by omega) (show i < 4611686018427387904 by omega)]
  exact bind_of e rfl
theorem pivot_ok {a b : Nat} {l : List Ent} (h8 : a + 12 < b) (hl : b ≤ l.length) (hb : l.length < 1000000000) : ∃ (x : Nat) (h : Int), F50 ((), (a : Int), (b : Int), (), ()) (l, ()) = some (((x : Int), h, ()), l, ()) ∧ a ≤ x ∧ x < b := by
  have w0 := subN (show a ≤ b by omega) (show b < 1000000000 by omega)
  have q1 : IntKind.wrap IntKind.i64 ((a : Int) + IntKind.wrap IntKind.i64 (IntKind.wrap IntKind.i64 (Int.tdiv ((b - a : Nat) : Int) (4 : Int)) * (1 : Int))) = ((a + (b - a) / 4 * 1 : Nat) : Int) := quart (by omega) (by omega) (m := 1) (by decide)
  have q2 : IntKind.wrap IntKind.i64 ((a : Int) + IntKind.wrap IntKind.i64 (IntKind.wrap IntKind.i64 (Int.tdiv ((b - a : Nat) : Int) (4 : Int)) * (2 : Int))) = ((a + (b - a) / 4 * 2 : Nat) : Int) := quart (by omega) (by omega) (m := 2) (by decide)
  have q3 : IntKind.wrap IntKind.i64 ((a : Int) + IntKind.wrap IntKind.i64 (IntKind.wrap IntKind.i64 (Int.tdiv ((b - a : Nat) : Int) (4 : Int)) * (3 : Int))) = ((a + (b - a) / 4 * 3 : Nat) : Int) := quart (by omega) (by omega) (m := 3) (by decide)
  have fin : ∀ (x : Nat) (n : Int), a ≤ x → x < b → ∃ (y : Nat) (h : Int), (if decide (n = (0 : Int)) = true then some (((x : Int), (1 : Int), ()), l, ()) else if decide (n = (12 : Int)) = true then some (((x : Int), (2 : Int), ()), l, ()) else some (((x : Int), (0 : Int), ()), l, ())) = some (((y : Int), h, ()), l, ()) ∧ a ≤ y ∧ y < b := fun x n h1 h2 => by
    by_cases c1 : n = 0
    · exact ⟨x, 1, if_pos (decide_eq_true c1), h1, h2⟩
    · by_cases c2 : n = 12
      · exact ⟨x, 2, (if_neg (by rw [decide_eq_true_eq]; exact c1)).trans (if_pos (decide_eq_true c2)), h1, h2⟩
      · exact ⟨x, 0, (if_neg (by rw [decide_eq_true_eq]; exact c1)).trans (if_neg (by rw [decide_eq_true_eq]; exact c2)), h1, h2⟩
  rw [F50]
  simp only [w0, q1, q2, q3]
  rw [if_pos (show decide ((8 : Int) ≤ ((b - a : Nat) : Int)) = true by rw [decide_eq_true_eq]; omega)]
  by_cases c : 50 ≤ b - a
  · rw [if_pos (show decide ((50 : Int) ≤ ((b - a : Nat) : Int)) = true by rw [decide_eq_true_eq]; omega)]
    obtain ⟨x1, n1, e1, g1⟩ := medadj_ok (l := l) (i := a + (b - a) / 4 * 1) (n := 0) (by omega) (by omega) hb
    obtain ⟨x2, n2, e2, g2⟩ := medadj_ok (l := l) (i := a + (b - a) / 4 * 2) (n := n1) (by omega) (by omega) hb
    obtain ⟨x3, n3, e3, g3⟩ := medadj_ok (l := l) (i := a + (b - a) / 4 * 3) (n := n2) (by omega) (by omega) hb
    obtain ⟨x4, n4, e4, g4⟩ := median_ok (l := l) (i := x1) (j := x2) (m := x3) (n := n3) (by omega) (by omega) (by omega)
    obtain ⟨y, h, e, g⟩ := fin x4 n4 (by omega) (by omega)
    refine ⟨y, h, ?_, g⟩
    refine bind_of e1 (bind_of e2 (bind_of e3 (bind_of e4 ?_)))
    exact e
  · rw [if_neg (show ¬ decide ((50 : Int) ≤ ((b - a : Nat) : Int)) = true by rw [decide_eq_true_eq]; omega)]
    obtain ⟨x4, n4, e4, g4⟩ := median_ok (l := l) (i := a + (b - a) / 4 * 1) (j := a + (b - a) / 4 * 2) (m := a + (b - a) / 4 * 3) (n := 0) (by omega) (by omega) (by omega)
    obtain ⟨y, h, e, g⟩ := fin x4 n4 (by omega) (by omega)
    refine ⟨y, h, ?_, g⟩
    refine bind_of e4 ?_
    exact e
end Go.Eng.He

set_option linter.unusedVariables false
namespace Go.Eng.He
open Go Go.Eng Go.Proofs
structure PInv (a b i j : Nat) (l : List Ent) : Prop where
  h1 : a < i
  h2 : i ≤ j + 1
  h3 : j < b
  h4 : a ≤ j
  lo : ∀ p, a < p → p < i → W (eg l p) (eg l a)
  hi : ∀ p, j < p → p < b → W (eg l a) (eg l p)
def PartR (a b : Nat) (l : List Ent) (f : Nat → Option (AT alts54)) : Prop :=
  ∃ (mid : Nat) (fl : Bool) (l2 : List Ent), (Pm a b l l2 ∧ a ≤ mid ∧ mid < b ∧ (∀ p, a ≤ p → p < mid → W (eg l2 p) (eg l2 mid)) ∧ (∀ p, mid < p → p < b → W (eg l2 mid) (eg l2 p))) ∧ Evt f (((mid : Int), fl, ()), l2, ())
theorem PartR.step {a b : Nat} {l l' : List Ent} {f g : Nat → Option (AT alts54)} (h : PartR a b l' g) (p : Pm a b l l') (hs : ∀ k, f (k + 1) = g k) : PartR a b l f := by
  obtain ⟨mid, fl, l2, ⟨q, r⟩, e⟩ := h
  exact ⟨mid, fl, l2, ⟨p.trans q, r⟩, e.step hs⟩
theorem PInv.fin {a b i j : Nat} {l : List Ent} (h : PInv a b i j l) (hj : j < i) (hb : b ≤ l.length) {f : Nat → Option (AT alts54)} {fl : Bool} (hs : ∀ k, f (k + 1) = some (((j : Int), fl, ()), sw l j a, ())) : PartR a b l f := by
  obtain ⟨h1, h2, h3, h4, lo, hi⟩ := h
  have qa : a < l.length := by omega
  have qj : j < l.length := by omega
  refine ⟨j, fl, sw l j a, ⟨sw_pm hb h4 h3 (Nat.le_refl _) (by omega), h4, h3, fun p p0 p1 => ?_, fun p p0 p1 => ?_⟩, .now hs⟩
  · rw [sw_eg qj qa, sw_eg qj qa]
    rw [if_neg (show ¬ a = j by omega), if_pos (show j = j from rfl)]
    by_cases e : a = p
    · rw [if_pos e]; exact lo j (by omega) hj
    · rw [if_neg e, if_neg (by omega)]; exact lo p (by omega) (by omega)
  · rw [sw_eg qj qa, sw_eg qj qa, if_neg (show ¬ a = p by omega), if_neg (show ¬ j = p by omega)]
    have : (if a = j then eg l j else if j = j then eg l a else eg l j) = eg l a := by
      by_cases e : a = j
      · rw [if_pos e, e]
      · rw [if_neg e, if_pos rfl]
    rw [this]; exact hi p p0 p1
theorem PInv.swap {a b i j : Nat} {l : List Ent} (h : PInv a b i j l) (hij : i < j) (hb : b ≤ l.length) (hj : btr (eg l j) (eg l a) = true) (hi' : btr (eg l i) (eg l a) = false) : PInv a b (i + 1) (j - 1) (sw l i j) := by
  obtain ⟨h1, h2, h3, h4, lo, hi⟩ := h
  have qi : i < l.length := by omega
  have qj : j < l.length := by omega
  have ea : eg (sw l i j) a = eg l a := by rw [sw_eg qi qj, if_neg (by omega), if_neg (by omega)]
  refine ⟨by omega, by omega, by omega, by omega, fun p p0 p1 => ?_, fun p p0 p1 => ?_⟩
  · rw [ea, sw_eg qi qj, if_neg (by omega)]
    by_cases e : i = p
    · rw [if_pos e]; exact W.of hj
    · rw [if_neg e]; exact lo p p0 (by omega)
  · rw [ea, sw_eg qi qj]
    by_cases e : j = p
    · rw [if_pos e]; exact hi'
    · rw [if_neg e, if_neg (by omega)]; exact hi p (by omega) p1
abbrev P513 (a : Nat) (k i j : Nat) (l : List Ent) : Option (AT alts54) := L54_513 k ((), (a : Int), (), (i : Int), (j : Int), ()) (l, ())
structure JSt (a b : Nat) (fl : Bool) (FI FJ : Nat → Nat → Nat → List Ent → Option (AT alts54)) : Prop where
  jon : ∀ k i j l, a < i → i ≤ j → j < b → b ≤ l.length → btr (eg l j) (eg l a) = false → FJ (k + 1) i j l = FJ k i (j - 1) l
  jsw : ∀ k i j l, a < i → i ≤ j → j < b → b ≤ l.length → btr (eg l j) (eg l a) = true → FJ (k + 1) i j l = P513 a k (i + 1) (j - 1) (sw l i j)
  jfin : ∀ k i j l, a ≤ j → j < b → j < i → i ≤ b → b ≤ l.length → FJ (k + 1) i j l = some (((j : Int), fl, ()), sw l j a, ())
  ion : ∀ k i j l, a < i → i ≤ j → j < b → b ≤ l.length → btr (eg l i) (eg l a) = true → FI (k + 1) i j l = FI k (i + 1) j l
  ioff : ∀ k i j l, a < i → i ≤ j + 1 → j < b → b ≤ l.length → (i ≤ j → btr (eg l i) (eg l a) = false) → FI (k + 1) i j l = FJ k i j l
theorem part_j {a b n : Nat} {fl : Bool} {FI FJ : Nat → Nat → Nat → List Ent → Option (AT alts54)} (h : JSt a b fl FI FJ) (next : ∀ i j l, PInv a b i j l → b ≤ l.length → j + 1 - i < n → PartR a b l (fun k => P513 a k i j l)) :
    ∀ (d i j : Nat) (l : List Ent), j + 1 ≤ i + d → j + 1 - i ≤ n → PInv a b i j l → b ≤ l.length → (i ≤ j → btr (eg l i) (eg l a) = false) → PartR a b l (fun k => FJ k i j l) := by
  intro d
  induction d with
  | zero => intro i j l hd hn hI hb hN; exact hI.fin (by omega) hb fun k => h.jfin k i j l hI.h4 hI.h3 (by omega) (by have := hI.h2; have := hI.h3; omega) hb
  | succ d ih =>
    intro i j l hd hn hI hb hN
    have g1 := hI.h1; have g2 := hI.h2; have g3 := hI.h3; have g4 := hI.h4
    by_cases hij : i ≤ j
    rotate_left
    · exact hI.fin (by omega) hb fun k => h.jfin k i j l g4 g3 (by omega) (by omega) hb
    cases hc : btr (eg l j) (eg l a) with
    | false =>
      refine (ih i (j - 1) l (by omega) (by omega) ⟨g1, by omega, by omega, by omega, hI.lo, fun p p0 p1 => ?_⟩ hb fun _ => hN hij).step (Pm.rfl' ..) fun k => h.jon k i j l g1 hij g3 hb hc
      by_cases e : p = j
      · rw [e]; exact hc
      · exact hI.hi p (by omega) p1
    | true =>
      have hlt : i < j := by
        rcases Nat.lt_or_ge i j with h | h
        · exact h
        · have e : i = j := by omega
          have := hN hij
          rw [e, hc] at this; cases this
      exact (next (i + 1) (j - 1) (sw l i j) (hI.swap hlt hb hc (hN hij)) (by rw [sw_len]; exact hb) (by omega)).step (sw_pm hb (by omega) (by omega) (by omega) g3) fun k => h.jsw k i j l g1 hij g3 hb hc
theorem part_i {a b n : Nat} {fl : Bool} {FI FJ : Nat → Nat → Nat → List Ent → Option (AT alts54)} (h : JSt a b fl FI FJ) (next : ∀ i j l, PInv a b i j l → b ≤ l.length → j + 1 - i < n → PartR a b l (fun k => P513 a k i j l)) :
    ∀ (d i j : Nat) (l : List Ent), j + 1 ≤ i + d → j + 1 - i ≤ n → PInv a b i j l → b ≤ l.length → PartR a b l (fun k => FI k i j l) := by
  intro d
  induction d with
  | zero =>
    intro i j l hd hn hI hb
    exact (part_j h next 0 i j l hd hn hI hb fun h => absurd h (by omega)).step (Pm.rfl' ..) fun k => h.ioff k i j l hI.h1 hI.h2 hI.h3 hb fun h => absurd h (by omega)
  | succ d ih =>
    intro i j l hd hn hI hb
    have g1 := hI.h1; have g2 := hI.h2; have g3 := hI.h3; have g4 := hI.h4
    by_cases hc : i ≤ j ∧ btr (eg l i) (eg l a) = true
    · refine (ih (i + 1) j l (by omega) (by omega) ⟨by omega, by omega, g3, g4, fun p p0 p1 => ?_, hI.hi⟩ hb).step (Pm.rfl' ..) fun k => h.ion k i j l g1 hc.1 g3 hb hc.2
      by_cases e : p = i
      · rw [e]; exact W.of hc.2
      · exact hI.lo p p0 (by omega)
    · have hN : i ≤ j → btr (eg l i) (eg l a) = false := fun hij => by
        cases e : btr (eg l i) (eg l a) with
        | false => rfl
        | true => exact absurd ⟨hij, e⟩ hc
      exact (part_j h next (d + 1) i j l hd hn hI hb hN).step (Pm.rfl' ..) fun k => h.ioff k i j l g1 g2 g3 hb hN
section
variable {a b : Nat} (hbig : b < 1000000000)
include hbig
theorem jst2 : JSt a b false (fun k i j l => L54_13 k ((), (a : Int), (), (i : Int), (j : Int), ()) (l, ())) (fun k i j l => L54_15 k ((), (a : Int), (), (i : Int), (j : Int), ()) (l, ())) where
  jon k i j l h1 h2 h3 h4 hc := by
    have qa : a < l.length := by omega
    have qj : j < l.length := by omega
    show L54_15 _ _ _ = _
    rw [L54_15]
    simp only [sub1 (show 0 < j by omega) (show j < 4611686018427387904 by omega)]
    refine (if_pos (le_c h2)).trans ((at1 qj).trans ((at1 qa).trans ?_))
    exact (bind_of (cmp_f hc) (if_pos (by decide)))
  jsw k i j l h1 h2 h3 h4 hc := by
    have qa : a < l.length := by omega
    have qj : j < l.length := by omega
    have qi : i < l.length := by omega
    show L54_15 _ _ _ = _
    rw [L54_15]
    simp only [sub1 (show 0 < j by omega) (show j < 4611686018427387904 by omega), add1 (show i < 4611686018427387904 by omega), List.length_set]
    refine (if_pos (le_c h2)).trans ((at1 qj).trans ((at1 qa).trans ?_))
    refine bind_of (cmp_t hc) ((if_neg (by decide)).trans ?_)
    exact (if_neg (nlt_c h2)).trans ((at1 qj).trans ((at1 qi).trans ((at1 qi).trans (at1 qj))))
  jfin k i j l h1 h2 h3 h4 h5 := by
    have qa : a < l.length := by omega
    have qj : j < l.length := by omega
    show L54_15 _ _ _ = _
    rw [L54_15]
    simp only [List.length_set]
    exact (if_neg (nle_c h3)).trans ((if_pos (lt_c h3)).trans ((at1 qa).trans ((at1 qj).trans ((at1 qj).trans (at1 qa)))))
  ion k i j l h1 h2 h3 h4 hc := by
    have qa : a < l.length := by omega
    have qi : i < l.length := by omega
    show L54_13 _ _ _ = _
    rw [L54_13]
    simp only [add1 (show i < 4611686018427387904 by omega)]
    refine (if_pos (le_c h2)).trans ((at1 qi).trans ((at1 qa).trans ?_))
    exact bind_of (cmp_t hc) (if_pos (by decide))
  ioff k i j l h1 h2 h3 h4 hN := by
    show L54_13 _ _ _ = _
    rw [L54_13]
    by_cases hij : i ≤ j
    · have qa : a < l.length := by omega
      have qi : i < l.length := by omega
      refine (if_pos (le_c hij)).trans ((at1 qi).trans ((at1 qa).trans ?_))
      exact bind_of (cmp_f (hN hij)) (if_neg (by decide))
    · exact if_neg (nle_c (by omega))
theorem jst1 : JSt a b true (fun k i j l => L54_3 k ((), (a : Int), (), (i : Int), (j : Int), ()) (l, ())) (fun k i j l => L54_5 k ((), (a : Int), (), (i : Int), (j : Int), ()) (l, ())) where
  jon k i j l h1 h2 h3 h4 hc := by
    have qa : a < l.length := by omega
    have qj : j < l.length := by omega
    show L54_5 _ _ _ = _
    rw [L54_5]
    simp only [sub1 (show 0 < j by omega) (show j < 4611686018427387904 by omega)]
    refine (if_pos (le_c h2)).trans ((at1 qj).trans ((at1 qa).trans ?_))
    exact (bind_of (cmp_f hc) (if_pos (by decide)))
  jsw k i j l h1 h2 h3 h4 hc := by
    have qa : a < l.length := by omega
    have qj : j < l.length := by omega
    have qi : i < l.length := by omega
    show L54_5 _ _ _ = _
    rw [L54_5]
    simp only [sub1 (show 0 < j by omega) (show j < 4611686018427387904 by omega), add1 (show i < 4611686018427387904 by omega), List.length_set]
    refine (if_pos (le_c h2)).trans ((at1 qj).trans ((at1 qa).trans ?_))
    refine bind_of (cmp_t hc) ((if_neg (by decide)).trans ?_)
    exact (if_neg (nlt_c h2)).trans ((at1 qj).trans ((at1 qi).trans ((at1 qi).trans (at1 qj))))
  jfin k i j l h1 h2 h3 h4 h5 := by
    have qa : a < l.length := by omega
    have qj : j < l.length := by omega
    show L54_5 _ _ _ = _
    rw [L54_5]
    simp only [List.length_set]
    exact (if_neg (nle_c h3)).trans ((if_pos (lt_c h3)).trans ((at1 qa).trans ((at1 qj).trans ((at1 qj).trans (at1 qa)))))
  ion k i j l h1 h2 h3 h4 hc := by
    have qa : a < l.length := by omega
    have qi : i < l.length := by omega
    show L54_3 _ _ _ = _
    rw [L54_3]
    simp only [add1 (show i < 4611686018427387904 by omega)]
    refine (if_pos (le_c h2)).trans ((at1 qi).trans ((at1 qa).trans ?_))
    exact bind_of (cmp_t hc) (if_pos (by decide))
  ioff k i j l h1 h2 h3 h4 hN := by
    show L54_3 _ _ _ = _
    rw [L54_3]
    by_cases hij : i ≤ j
    · have qa : a < l.length := by omega
      have qi : i < l.length := by omega
      refine (if_pos (le_c hij)).trans ((at1 qi).trans ((at1 qa).trans ?_))
      exact bind_of (cmp_f (hN hij)) (if_neg (by decide))
    · exact if_neg (nle_c (by omega))
theorem part_513 : ∀ (n i j : Nat) (l : List Ent), PInv a b i j l → b ≤ l.length → j + 1 - i < n → PartR a b l (fun k => P513 a k i j l) := by
  intro n
  induction n with
  | zero => intro i j l _ _ h; omega
  | succ n ih =>
    intro i j l hI hb hn
    refine (part_i (jst2 hbig) ih (j + 1 - i) i j l (by omega) (by omega) hI hb).step (Pm.rfl' ..) fun k => ?_
    show L54_513 _ _ _ = _
    rw [L54_513]
theorem partition_ok {p : Nat} (h1 : a ≤ p) (h2 : p < b) {l : List Ent} (hl : b ≤ l.length) (h12 : a + 1 < b) : PartR a b l (fun k => F54 k ((), (a : Int), (b : Int), (p : Int), (), ()) (l, ())) := by
  have qa : a < l.length := by omega
  have qp : p < l.length := by omega
  have p0 : Pm a b l (sw l a p) := sw_pm hl (Nat.le_refl _) (by omega) h1 h2
  obtain ⟨mid, fl, l2, ⟨q, r⟩, K, e⟩ := part_i (jst1 (a := a) hbig) (part_513 (a := a) hbig (b - a)) (b - a) (a + 1) (b - 1) (sw l a p) (by omega) (by omega) ⟨by omega, by omega, by omega, by omega, fun p p0 p1 => absurd p0 (by omega), fun p p0 p1 => absurd p0 (by omega)⟩ (by rw [sw_len]; exact hl)
  refine ⟨mid, fl, l2, ⟨p0.trans q, r⟩, K, fun k hk => ?_⟩
  show F54 _ _ _ = _
  rw [F54]
  simp only [add1 (show a < 4611686018427387904 by omega), sub1 (show 0 < b by omega) (show b < 4611686018427387904 by omega), List.length_set]
  exact ((at1 qp).trans ((at1 qa).trans ((at1 qa).trans (at1 qp)))).trans (e k hk)
def PiR (a b : Nat) (l : List Ent) (f : Nat → Option (AT alts52)) : Prop := ∃ (fl : Bool) (l2 : List Ent), (Pm a b l l2 ∧ (fl = true → Srt a b l2)) ∧ Evt f (fl, l2, ())
omit hbig in
theorem PiR.step {l l' : List Ent} {f g : Nat → Option (AT alts52)} (h : PiR a b l' g) (p : Pm a b l l') (hs : ∀ k, f (k + 1) = g k) : PiR a b l f := by
  obtain ⟨fl, l2, ⟨q, r⟩, e⟩ := h
  exact ⟨fl, l2, ⟨p.trans q, r⟩, e.step hs⟩
theorem pi_right {i c : Nat} (hc : c < 100) (hai : a < i) : ∀ (d j : Nat) (l : List Ent), j + d = b → i < j → b ≤ l.length →
    (∀ l', Pm i b l l' → PiR a b l' (fun k => L52_3 k ((), (a : Int), (b : Int), (), (i : Int), ((c + 1 : Nat) : Int), ()) (l', ()))) →
    PiR a b l (fun k => L52_20 k ((), (a : Int), (b : Int), (), (i : Int), (c : Int), (j : Int), ()) (l, ())) := by
  intro d
  induction d with
  | zero =>
    intro j l hd hij hl next
    refine (next l (Pm.rfl' ..)).step (Pm.rfl' ..) fun k => ?_
    show L52_20 _ _ _ = _
    rw [L52_20]
    simp only [add1 (show c < 4611686018427387904 by omega)]
    exact if_neg (nlt_c (by omega))
  | succ d ih =>
    intro j l hd hij hl next
    have qj : j < l.length := by omega
    have q1 : j - 1 < l.length := by omega
    cases hc : btr (eg l j) (eg l (j - 1)) with
    | false =>
      refine (next l (Pm.rfl' ..)).step (Pm.rfl' ..) fun k => ?_
      show L52_20 _ _ _ = _
      rw [L52_20]
      simp only [add1 (show c < 4611686018427387904 by omega), sub1 (show 0 < j by omega) (show j < 4611686018427387904 by omega)]
      refine (if_pos (lt_c (by omega))).trans ((at1 qj).trans ((at1 q1).trans ?_))
      exact bind_of (cmp_f hc) (if_pos (by decide))
    | true =>
      have p0 : Pm i b l (sw l j (j - 1)) := sw_pm hl (by omega) (by omega) (by omega) (by omega)
      refine (ih (j + 1) (sw l j (j - 1)) (by omega) (by omega) (by rw [sw_len]; exact hl) fun l' p => next l' (p0.trans p)).step (p0.mono (by omega) (Nat.le_refl _)) fun k => ?_
      show L52_20 _ _ _ = _
      rw [L52_20]
      simp only [add1 (show c < 4611686018427387904 by omega), add1 (show j < 4611686018427387904 by omega), sub1 (show 0 < j by omega) (show j < 4611686018427387904 by omega), List.length_set]
      refine (if_pos (lt_c (by omega))).trans ((at1 qj).trans ((at1 q1).trans ?_))
      refine bind_of (cmp_t hc) ((if_neg (by decide)).trans ?_)
      exact (at1 q1).trans ((at1 qj).trans ((at1 qj).trans (at1 q1)))
abbrev tl52 (a b i c : Nat) (k : Nat) (l : List Ent) : Option (AT alts52) :=
  if decide ((2 : Int) ≤ ((b - i : Nat) : Int)) = true then L52_20 k ((), (a : Int), (b : Int), (), (i : Int), (c : Int), ((i + 1 : Nat) : Int), ()) (l, ()) else L52_3 k ((), (a : Int), (b : Int), (), (i : Int), ((c + 1 : Nat) : Int), ()) (l, ())
theorem tl_ok {i c : Nat} (hc : c < 100) (hai : a < i) (hib : i < b) {l : List Ent} (hl : b ≤ l.length)
    (next : ∀ l', Pm i b l l' → PiR a b l' (fun k => L52_3 k ((), (a : Int), (b : Int), (), (i : Int), ((c + 1 : Nat) : Int), ()) (l', ()))) : PiR a b l (fun k => tl52 a b i c k l) := by
  by_cases h : 2 ≤ b - i
  · have := pi_right hbig hc hai (b - (i + 1)) (i + 1) l (by omega) (by omega) hl next
    have e : (fun k => tl52 a b i c k l) = fun k => L52_20 k ((), (a : Int), (b : Int), (), (i : Int), (c : Int), ((i + 1 : Nat) : Int), ()) (l, ()) := funext fun k => if_pos (by rw [decide_eq_true_eq]; omega)
    rw [e]; exact this
  · have e : (fun k => tl52 a b i c k l) = fun k => L52_3 k ((), (a : Int), (b : Int), (), (i : Int), ((c + 1 : Nat) : Int), ()) (l, ()) := funext fun k => if_neg (by rw [decide_eq_true_eq]; omega)
    rw [e]; exact next l (Pm.rfl' ..)
theorem pi_left {i c : Nat} (hc : c < 100) (hai : a < i) (hib : i < b) : ∀ (j : Nat) (l : List Ent), j < i → a ≤ j → b ≤ l.length → Lft a b l → Ins a i j l →
    (∀ l', Pm a i l l' → Srt a i l' → PiR a b l' (fun k => tl52 a b i c k l')) →
    PiR a b l (fun k => L52_14 k ((), (a : Int), (b : Int), (), (i : Int), (c : Int), (j : Int), ()) (l, ())) := by
  intro j
  have wi1 := subN (show i ≤ b by omega) hbig
  induction j with
  | zero =>
    intro l hji haj hl hL hI next
    refine (next l (Pm.rfl' ..) (hI.done (.inl (Nat.zero_le _)))).step (Pm.rfl' ..) fun k => ?_
    show L52_14 _ _ _ = _
    rw [L52_14]
    simp only [add1 (show c < 4611686018427387904 by omega), add1 (show i < 4611686018427387904 by omega), wi1]
    exact if_neg (by decide)
  | succ j ih =>
    intro l hji haj hl hL hI next
    have qj : j + 1 < l.length := by omega
    have q1 : j < l.length := by omega
    have e1 : IntKind.wrap IntKind.i64 (((j + 1 : Nat) : Int) - (1 : Int)) = ((j : Nat) : Int) := sub1 (by omega) (by omega)
    have c1 : decide ((1 : Int) ≤ ((j + 1 : Nat) : Int)) = true := by rw [decide_eq_true_eq]; omega
    cases hc : btr (eg l (j + 1)) (eg l j) with
    | false =>
      refine (next l (Pm.rfl' ..) (hI.done (.inr hc))).step (Pm.rfl' ..) fun k => ?_
      show L52_14 _ _ _ = _
      rw [L52_14]
      simp only [add1 (show c < 4611686018427387904 by omega), add1 (show i < 4611686018427387904 by omega), wi1, e1]
      refine (if_pos c1).trans ((at1 qj).trans ((at1 q1).trans ?_))
      exact bind_of (cmp_f hc) (if_pos (by decide))
    | true =>
      have haj' : a < j + 1 := by
        rcases Nat.lt_or_ge a (j + 1) with h | h
        · exact h
        · have e : a = j + 1 := by omega
          have := hL j (j + 1) (by omega) (by omega) (by omega)
          unfold W at this
          rw [hc] at this; cases this
      have p0 : Pm a i l (sw l (j + 1) j) := sw_pm (by omega) (by omega) (by omega) (by omega) (by omega)
      have p1 : Pm a b l (sw l (j + 1) j) := p0.mono (Nat.le_refl _) (by omega)
      have hI' : Ins a i j (sw l (j + 1) j) := hI.step (by omega) (by omega) (by omega) (W.of hc)
      refine (ih (sw l (j + 1) j) (by omega) (by omega) (by rw [sw_len]; exact hl) (hL.pm p1) hI' fun l' p hs => next l' (p0.trans p) hs).step p1 fun k => ?_
      show L52_14 _ _ _ = _
      rw [L52_14]
      simp only [add1 (show c < 4611686018427387904 by omega), add1 (show i < 4611686018427387904 by omega), wi1, e1, List.length_set]
      refine (if_pos c1).trans ((at1 qj).trans ((at1 q1).trans ?_))
      refine bind_of (cmp_t hc) ((if_neg (by decide)).trans ?_)
      exact (at1 q1).trans ((at1 qj).trans ((at1 qj).trans (at1 q1)))
omit hbig in
theorem Srt.more {i : Nat} {l : List Ent} (h : Srt a i l) (hai : a < i) (hc : W (eg l (i - 1)) (eg l i)) : Srt a (i + 1) l := fun p q p0 pq q1 => by
  by_cases e : q = i
  · rw [e]
    by_cases e2 : p = i - 1
    · rw [e2]; exact hc
    · exact (h p (i - 1) p0 (by omega) (by omega)).trans hc
  · exact h p q p0 pq (by omega)
theorem pi_scan {c : Nat} (hc : c < 100) (next : ∀ i l, a < i → i < b → b ≤ l.length → Lft a b l → Srt a i l → PiR a b l (fun k => L52_3 k ((), (a : Int), (b : Int), (), (i : Int), ((c + 1 : Nat) : Int), ()) (l, ()))) :
    ∀ (d i : Nat) (l : List Ent), i + d = b → a < i → b ≤ l.length → Lft a b l → Srt a i l →
    PiR a b l (fun k => L52_5 k ((), (a : Int), (b : Int), (), (i : Int), (c : Int), ()) (l, ())) := by
  intro d
  induction d with
  | zero =>
    intro i l hd hai hl hL hs
    refine ⟨true, l, ⟨Pm.rfl' .., fun _ => by rwa [show b = i by omega]⟩, .now fun k => ?_⟩
    rw [L52_5]
    exact (if_neg (nlt_c (by omega))).trans (if_pos (show decide ((i : Int) = (b : Int)) = true by rw [decide_eq_true_eq]; omega))
  | succ d ih =>
    intro i l hd hai hl hL hs
    have qi : i < l.length := by omega
    have q1 : i - 1 < l.length := by omega
    have e1 := sub1 (show 0 < i by omega) (show i < 4611686018427387904 by omega)
    have ne : ¬ decide ((i : Int) = (b : Int)) = true := by rw [decide_eq_true_eq]; omega
    cases hcm : btr (eg l i) (eg l (i - 1)) with
    | false =>
      refine (ih (i + 1) l (by omega) (by omega) hl hL (hs.more hai hcm)).step (Pm.rfl' ..) fun k => ?_
      show L52_5 _ _ _ = _
      rw [L52_5]
      simp only [e1, add1 (show i < 4611686018427387904 by omega)]
      refine (if_pos (lt_c (by omega))).trans ((at1 qi).trans ((at1 q1).trans ?_))
      exact bind_of (cmp_f hcm) (if_pos (by decide))
    | true =>
      by_cases h50 : b - a < 50
      · refine ⟨false, l, ⟨Pm.rfl' .., fun h => by cases h⟩, .now fun k => ?_⟩
        rw [L52_5]
        simp only [e1, subN (show a ≤ b by omega) hbig]
        refine (if_pos (lt_c (by omega))).trans ((at1 qi).trans ((at1 q1).trans ?_))
        refine bind_of (cmp_t hcm) ((if_neg (by decide)).trans ((if_neg ne).trans ?_))
        exact if_pos (by rw [decide_eq_true_eq]; omega)
      · have n50 : ¬ decide (((b - a : Nat) : Int) < (50 : Int)) = true := by rw [decide_eq_true_eq]; omega
        have p0 : Pm a b l (sw l i (i - 1)) := sw_pm hl (by omega) (by omega) (by omega) (by omega)
        have hL' := hL.pm p0
        have nx : ∀ l', Pm a b (sw l i (i - 1)) l' → Srt a i l' → PiR a b l' (fun k => tl52 a b i c k l') := fun l' p hs' =>
          tl_ok hbig hc hai (by omega) (by rw [p.len, sw_len]; exact hl) fun l2 p2 => next i l2 hai (by omega) (by rw [p2.len, p.len, sw_len]; exact hl) ((hL'.pm p).pm (p2.mono (by omega) (Nat.le_refl _))) fun x y h0 h1 h2 => by
            rw [p2.out x (.inl (by omega)), p2.out y (.inl h2)]; exact hs' x y h0 h1 h2
        by_cases h2 : 2 ≤ i - a
        · have hI : Ins a i (i - 1) (sw l i (i - 1)) := fun x y h0 h1 h2 h3 => by
            rw [sw_eg qi q1, sw_eg qi q1, if_neg (by omega), if_neg (by omega), if_neg (by omega), if_neg (by omega)]
            exact hs x y h0 h1 h2
          refine (pi_left hbig hc hai (by omega) (i - 1) (sw l i (i - 1)) (by omega) (by omega) (by rw [sw_len]; exact hl) hL' hI fun l' p hs' => nx l' (p.mono (Nat.le_refl _) (by omega)) hs').step p0 fun k => ?_
          show L52_5 _ _ _ = _
          rw [L52_5]
          simp only [e1, subN (show a ≤ b by omega) hbig, subN (show a ≤ i by omega) (show i < 1000000000 by omega), List.length_set]
          refine (if_pos (lt_c (by omega))).trans ((at1 qi).trans ((at1 q1).trans ?_))
          refine bind_of (cmp_t hcm) ((if_neg (by decide)).trans ((if_neg ne).trans ((if_neg n50).trans ?_)))
          exact ((at1 q1).trans ((at1 qi).trans ((at1 qi).trans (at1 q1)))).trans (if_pos (by rw [decide_eq_true_eq]; omega))
        · refine (nx (sw l i (i - 1)) (Pm.rfl' ..) fun x y h0 h1 h2 => absurd h1 (by omega)).step p0 fun k => ?_
          show L52_5 _ _ _ = _
          rw [L52_5]
          simp only [e1, subN (show a ≤ b by omega) hbig, subN (show a ≤ i by omega) (show i < 1000000000 by omega), subN (show i ≤ b by omega) hbig, add1 (show c < 4611686018427387904 by omega), add1 (show i < 4611686018427387904 by omega), List.length_set]
          refine (if_pos (lt_c (by omega))).trans ((at1 qi).trans ((at1 q1).trans ?_))
          refine bind_of (cmp_t hcm) ((if_neg (by decide)).trans ((if_neg ne).trans ((if_neg n50).trans ?_)))
          exact ((at1 q1).trans ((at1 qi).trans ((at1 qi).trans (at1 q1)))).trans (if_neg (by rw [decide_eq_true_eq]; omega))
theorem pi_count : ∀ (d c i : Nat) (l : List Ent), c + d = 5 → a < i → i ≤ b → b ≤ l.length → Lft a b l → Srt a i l →
    PiR a b l (fun k => L52_3 k ((), (a : Int), (b : Int), (), (i : Int), (c : Int), ()) (l, ())) := by
  intro d
  induction d with
  | zero =>
    intro c i l hd hai hib hl hL hs
    refine ⟨false, l, ⟨Pm.rfl' .., fun h => by cases h⟩, .now fun k => ?_⟩
    rw [L52_3]
    exact if_neg (show ¬ decide ((c : Int) < (5 : Int)) = true by rw [decide_eq_true_eq]; omega)
  | succ d ih =>
    intro c i l hd hai hib hl hL hs
    refine (pi_scan hbig (c := c) (by omega) (fun i l h1 h2 h3 h4 h5 => ih (c + 1) i l (by omega) h1 (by omega) h3 h4 h5) (b - i) i l (by omega) hai hl hL hs).step (Pm.rfl' ..) fun k => ?_
    show L52_3 _ _ _ = _
    rw [L52_3]
    exact if_pos (show decide ((c : Int) < (5 : Int)) = true by rw [decide_eq_true_eq]; omega)
theorem partial_ok (hab : a < b) {l : List Ent} (hl : b ≤ l.length) (hL : Lft a b l) : PiR a b l (fun k => F52 k ((), (a : Int), (b : Int), (), ()) (l, ())) := by
  obtain ⟨fl, l2, h, K, e⟩ := pi_count hbig 5 0 (a + 1) l rfl (by omega) (by omega) hl hL (fun x y h0 h1 h2 => absurd h1 (by omega))
  refine ⟨fl, l2, h, K, fun k hk => ?_⟩
  show F52 _ _ _ = _
  rw [F52]
  simp only [add1 (show a < 4611686018427387904 by omega)]
  exact e k hk
end
end Go.Eng.He

set_option linter.unusedVariables false
namespace Go.Eng.He
open Go Go.Eng Go.Proofs
abbrev w64 (n : Int) : Int := IntKind.wrap IntKind.i64 n
abbrev FR43 := pin43.T → OPL.T os43 → Option (AT alts43)
def prt43 (K : Nat) (FR : FR43) (k : Nat) (a1 a2 lim p : Int) (l : List Ent) : Option (AT alts43) :=
  Option.bind ((F54 K) ((), a1, a2, p, (), ()) (l, ())) fun val => if decide (w64 (val.1.1 - a1) < w64 (a2 - val.1.1)) = true then Option.bind (FR ((), a1, val.1.1, lim, (), ()) (val.2.1, ())) fun v => (L43_2 K FR) k ((), w64 (val.1.1 + (1 : Int)), a2, lim, (), decide (w64 (Int.tdiv (w64 (a2 - a1)) (8 : Int)) ≤ w64 (val.1.1 - a1)), val.1.2.1, ()) (v.2.1, ()) else Option.bind (FR ((), w64 (val.1.1 + (1 : Int)), a2, lim, (), ()) (val.2.1, ())) fun v => (L43_2 K FR) k ((), a1, val.1.1, lim, (), decide (w64 (Int.tdiv (w64 (a2 - a1)) (8 : Int)) ≤ w64 (a2 - val.1.1)), val.1.2.1, ()) (v.2.1, ())
def tl43 (K : Nat) (FR : FR43) (k : Nat) (a1 a2 lim p : Int) (a4 a5 : Bool) (l : List Ent) : Option (AT alts43) :=
  if decide ((0 : Int) < a1) = true then if (0 : Int) ≤ w64 (a1 - (1 : Int)) ∧ w64 (a1 - (1 : Int)) < (↑(List.length l) : Int) then if Int.toNat (w64 (a1 - (1 : Int))) < List.length l then if (0 : Int) ≤ p ∧ p < (↑(List.length l) : Int) then if Int.toNat p < List.length l then Option.bind (F31 ((entT (List.getD l (Int.toNat (w64 (a1 - (1 : Int)))) ent0)), (entT (List.getD l (Int.toNat p) ent0)), ()) ()) fun v => if (!decide (v.1 < (0 : Int))) = true then Option.bind (F53 ((), a1, a2, p, (), ()) (l, ())) fun val => (L43_2 K FR) k ((), val.1, a2, lim, (), a4, a5, ()) (val.2.1, ()) else prt43 K FR k a1 a2 lim p l else none else none else none else none else prt43 K FR k a1 a2 lim p l
def try43 (K : Nat) (FR : FR43) (k : Nat) (a1 a2 lim p : Int) (a4 a5 : Bool) (l : List Ent) : Option (AT alts43) :=
  Option.bind ((F52 K) ((), a1, a2, (), ()) (l, ())) fun v => if v.1 = true then some ((), v.2.1, ()) else tl43 K FR k a1 a2 lim p a4 a5 v.2.1
def piv43 (K : Nat) (FR : FR43) (k : Nat) (a1 a2 lim : Int) (a4 a5 : Bool) (l : List Ent) : Option (AT alts43) :=
  Option.bind (F50 ((), a1, a2, (), ()) (l, ())) fun val => if decide (val.1.2.1 = (2 : Int)) = true then Option.bind ((F51 K) ((), a1, a2, (), ()) (val.2.1, ())) fun v => if a4 = true then if a5 = true then try43 K FR k a1 a2 lim (w64 (w64 (a2 - (1 : Int)) - w64 (val.1.1 - a1))) a4 a5 v.2.1 else tl43 K FR k a1 a2 lim (w64 (w64 (a2 - (1 : Int)) - w64 (val.1.1 - a1))) a4 a5 v.2.1 else tl43 K FR k a1 a2 lim (w64 (w64 (a2 - (1 : Int)) - w64 (val.1.1 - a1))) a4 a5 v.2.1
    else if a4 = true then if a5 = true then if decide (val.1.2.1 = (1 : Int)) = true then try43 K FR k a1 a2 lim val.1.1 a4 a5 val.2.1 else tl43 K FR k a1 a2 lim val.1.1 a4 a5 val.2.1 else tl43 K FR k a1 a2 lim val.1.1 a4 a5 val.2.1 else tl43 K FR k a1 a2 lim val.1.1 a4 a5 val.2.1
theorem L43_eq (K : Nat) (FR : FR43) (k : Nat) (a1 a2 a3 : Int) (a4 a5 : Bool) (l : List Ent) : L43_2 K FR (k + 1) ((), a1, a2, a3, (), a4, a5, ()) (l, ()) =
    if decide (w64 (a2 - a1) ≤ (12 : Int)) = true then Option.bind ((F47 K) ((), a1, a2, (), ()) (l, ())) fun val => some ((), val.2.1, ()) else if decide (a3 = (0 : Int)) = true then Option.bind ((F48 K) ((), a1, a2, (), ()) (l, ())) fun val => some ((), val.2.1, ()) else if (!a4) = true then Option.bind ((F49 K) ((), a1, a2, (), ()) (l, ())) fun val => piv43 K FR k a1 a2 (w64 (a3 - (1 : Int))) a4 a5 val.2.1 else piv43 K FR k a1 a2 a3 a4 a5 l := by
  rw [L43_2]; rfl
theorem Ev2.bind {α β : Type} {f : Nat → Nat → Option α} {g : Nat → Option β} {h : Nat → Nat → Option α} {v : β} {r : α} (h1 : Evt g v) (h2 : Ev2 h r) (hs : ∀ K k, g K = some v → f K k = h K k) : Ev2 f r := by
  obtain ⟨K1, h1⟩ := h1
  obtain ⟨K2, h2⟩ := h2
  refine ⟨K1 + K2, fun K hK k hk => ?_⟩
  rw [hs K k (h1 K (by omega))]; exact h2 K (by omega) k (by omega)
theorem Ev2.fin {α β : Type} {f : Nat → Nat → Option α} {g : Nat → Option β} {v : β} {r : α} (h1 : Evt g v) (hs : ∀ K k, g K = some v → f K k = some r) : Ev2 f r := by
  obtain ⟨K1, h1⟩ := h1
  exact ⟨K1, fun K hK k hk => hs K k (h1 K hK)⟩
theorem Ev2.of {α : Type} {f h : Nat → Nat → Option α} {r : α} (h2 : Ev2 h r) (hs : ∀ K k, f K k = h K k) : Ev2 f r := by
  obtain ⟨K2, h2⟩ := h2
  exact ⟨K2, fun K hK k hk => (hs K k).trans (h2 K hK k hk)⟩
def Dis (l : List Ent) : Prop := (l.map fun e => e.2.2.2).Nodup
theorem Dis.perm {l l' : List Ent} (h : Dis l) (p : l'.Perm l) : Dis l' := (p.map _).nodup_iff.2 h
theorem W.strict {x y : Ent} (h : W x y) (hne : x.2.2.2 ≠ y.2.2.2) : btr x y = true := by
  unfold W btr at *
  by_cases h1 : x.1 = y.1
  · rw [if_pos h1.symm] at h
    rw [if_pos h1]
    by_cases h2 : x.2.1 = y.2.1
    · rw [if_pos h2.symm, decide_eq_false_iff_not] at h
      rw [if_pos h2, decide_eq_true_eq]; omega
    · rw [if_neg (Ne.symm h2), decide_eq_false_iff_not] at h
      rw [if_neg h2, decide_eq_true_eq]; omega
  · rw [if_neg (Ne.symm h1), decide_eq_false_iff_not] at h
    rw [if_neg h1, decide_eq_true_eq]; omega
theorem Dis.ne {l : List Ent} (h : Dis l) {i j : Nat} (hi : i < l.length) (hj : j < l.length) (hij : i ≠ j) : (eg l i).2.2.2 ≠ (eg l j).2.2.2 := by
  intro e
  have ei : eg l i = l[i] := by simp [eg, List.getD_eq_getElem?_getD, hi]
  have ej : eg l j = l[j] := by simp [eg, List.getD_eq_getElem?_getD, hj]
  rw [ei, ej] at e
  have h' := List.pairwise_iff_getElem.1 (show (l.map fun e => e.2.2.2).Pairwise (· ≠ ·) from h)
  rcases Nat.lt_or_gt_of_ne hij with g | g
  · exact h' i j (by simpa using hi) (by simpa using hj) g (by simpa using e)
  · exact h' j i (by simpa using hj) (by simpa using hi) g (by simpa using e.symm)
structure Pre (a b : Nat) (l : List Ent) : Prop where
  len : b ≤ l.length
  big : l.length < 16777216
  lft : Lft a b l
  dis : Dis l
  ab : a ≤ b
theorem Pre.pm {a b : Nat} {l l' : List Ent} (h : Pre a b l) (p : Pm a b l l') : Pre a b l' := ⟨by rw [p.len]; exact h.len, by rw [p.len]; exact h.big, h.lft.pm p, h.dis.perm p.perm, h.ab⟩
def Q43 (a b : Nat) (l : List Ent) (f : Nat → Nat → Option (AT alts43)) : Prop := ∃ l2, (Pm a b l l2 ∧ Srt a b l2) ∧ Ev2 f ((), l2, ())
abbrev run43 (a b : Nat) (lim : Int) (x y : Bool) (l : List Ent) : Nat → Nat → Option (AT alts43) := fun K k => L43_2 K (F43 K) k ((), (a : Int), (b : Int), lim, (), x, y, ()) (l, ())
def Lim (lim : Int) : Prop := 0 ≤ lim ∧ lim ≤ 1000
theorem call43 {a b : Nat} {lim : Int} {l l2 : List Ent} (h : Ev2 (run43 a b lim true true l) ((), l2, ())) : Evt (fun K => F43 K ((), (a : Int), (b : Int), lim, (), ()) (l, ())) ((), l2, ()) := by
  refine h.diag.step fun k => ?_
  show F43 (k + 1) _ _ = _
  rw [F43]
theorem comb {a b mid : Nat} {l l3 : List Ent} (ham : a ≤ mid) (hmb : mid < b) (lo : ∀ p, a ≤ p → p < mid → W (eg l p) (eg l mid)) (hi : ∀ p, mid < p → p < b → W (eg l mid) (eg l p))
    (A : ∀ p, a ≤ p → p < mid → ∃ p', a ≤ p' ∧ p' < mid ∧ eg l3 p = eg l p') (B : ∀ p, mid < p → p < b → ∃ p', mid < p' ∧ p' < b ∧ eg l3 p = eg l p') (C : eg l3 mid = eg l mid)
    (s1 : Srt a mid l3) (s2 : Srt (mid + 1) b l3) : Srt a b l3 := fun p q p0 pq qb => by
  have L : ∀ p, a ≤ p → p < mid → W (eg l3 p) (eg l mid) := fun p h1 h2 => by
    obtain ⟨p', g1, g2, e⟩ := A p h1 h2
    rw [e]; exact lo p' g1 g2
  have H : ∀ p, mid < p → p < b → W (eg l mid) (eg l3 p) := fun p h1 h2 => by
    obtain ⟨p', g1, g2, e⟩ := B p h1 h2
    rw [e]; exact hi p' g1 g2
  rcases Nat.lt_trichotomy q mid with h | h | h
  · exact s1 p q p0 pq h
  · rw [h, C]; exact L p p0 (by omega)
  · rcases Nat.lt_trichotomy p mid with g | g | g
    · exact (L p p0 g).trans (H q h qb)
    · rw [g, C]; exact H q h qb
    · exact s2 p q (by omega) pq qb
theorem prt_ok {n : Nat} (ih : ∀ a b l (lim : Int) x y, b - a < n → Pre a b l → Lim lim → Q43 a b l (run43 a b lim x y l)) {a b p : Nat} {l : List Ent} {lim : Int} (hn : b - a ≤ n) (hP : Pre a b l) (hL : Lim lim) (h12 : a + 1 < b) (hp : a ≤ p) (hpb : p < b) :
    Q43 a b l (fun K k => prt43 K (F43 K) k (a : Int) (b : Int) lim (p : Int) l) := by
  have hbig := hP.big
  have hlen := hP.len
  obtain ⟨mid, fl, l1, ⟨p1, m1, m2, lo, hi⟩, e1⟩ := partition_ok (a := a) (b := b) (by omega) hp hpb hP.len h12
  have P1 := hP.pm p1
  have hlen1 := P1.len
  have s1 := subN (show a ≤ mid by omega) (show mid < 1000000000 by omega)
  have s2 := subN (show mid ≤ b by omega) (show b < 1000000000 by omega)
  have s3 := add1 (show mid < 4611686018427387904 by omega)
  have PL : ∀ l', Pm (mid + 1) b l1 l' → Pre a mid l' := fun l' q => ⟨by rw [q.len]; omega, by rw [q.len]; exact P1.big, fun i j h0 h1 h2 => by
    rw [q.out i (.inl (by omega)), q.out j (.inl (by omega))]; exact P1.lft i j h0 h1 (by omega), P1.dis.perm q.perm, m1⟩
  have PR : ∀ l', Pm a mid l1 l' → Pre (mid + 1) b l' := fun l' q => ⟨by rw [q.len]; omega, by rw [q.len]; exact P1.big, fun i j h0 h1 h2 => by
    rw [q.out j (.inr (by omega))]
    rcases Nat.lt_trichotomy i mid with g | g | g
    · rcases Nat.lt_or_ge i a with g2 | g2
      · rw [q.out i (.inl g2)]; exact P1.lft i j g2 (by omega) h2
      · obtain ⟨i', g3, g4, e⟩ := q.ins i g2 g
        rw [e]; exact (lo i' g3 g4).trans (hi j (by omega) h2)
    · rw [g, q.out mid (.inr (Nat.le_refl _))]; exact hi j (by omega) h2
    · omega, P1.dis.perm q.perm, by omega⟩
  by_cases hc : mid - a < b - mid
  · obtain ⟨l2, ⟨p2, t2⟩, e2⟩ := ih a mid l1 lim true true (by omega) (PL l1 (Pm.rfl' ..)) hL
    obtain ⟨l3, ⟨p3, t3⟩, e3⟩ := ih (mid + 1) b l2 lim (decide (w64 (Int.tdiv (w64 ((b : Int) - (a : Int))) (8 : Int)) ≤ ((mid - a : Nat) : Int))) fl (by omega) (PR l2 p2) hL
    refine ⟨l3, ⟨p1.trans ((p2.mono (Nat.le_refl _) (by omega)).trans (p3.mono (by omega) (Nat.le_refl _))), ?_⟩, .bind (h := fun K k => Option.bind (F43 K ((), (a : Int), (mid : Int), lim, (), ()) (l1, ())) fun v => (L43_2 K (F43 K)) k ((), ((mid + 1 : Nat) : Int), (b : Int), lim, (), decide (w64 (Int.tdiv (w64 ((b : Int) - (a : Int))) (8 : Int)) ≤ ((mid - a : Nat) : Int)), fl, ()) (v.2.1, ())) e1 (.bind (call43 e2) e3 fun K k e => ?_) fun K k e => ?_⟩
    · refine comb m1 m2 lo hi (fun x h1 h2 => ?_) (fun x h1 h2 => ?_) (by rw [p3.out _ (.inl (by omega)), p2.out _ (.inr (Nat.le_refl _))]) (fun i j h0 h1 h2 => ?_) t3
      · rw [p3.out _ (.inl (by omega))]; exact p2.ins x h1 h2
      · obtain ⟨x', g1, g2, e⟩ := p3.ins x (by omega) h2
        exact ⟨x', by omega, g2, by rw [e, p2.out _ (.inr (by omega))]⟩
      · rw [p3.out _ (.inl (by omega)), p3.out _ (.inl (by omega))]; exact t2 i j h0 h1 h2
    · exact bind_of e rfl
    · unfold prt43
      refine bind_of e ?_
      simp only [s1, s2, s3]
      exact if_pos (lt_c hc)
  · obtain ⟨l2, ⟨p2, t2⟩, e2⟩ := ih (mid + 1) b l1 lim true true (by omega) (PR l1 (Pm.rfl' ..)) hL
    obtain ⟨l3, ⟨p3, t3⟩, e3⟩ := ih a mid l2 lim (decide (w64 (Int.tdiv (w64 ((b : Int) - (a : Int))) (8 : Int)) ≤ ((b - mid : Nat) : Int))) fl (by omega) (PL l2 p2) hL
    refine ⟨l3, ⟨p1.trans ((p2.mono (by omega) (Nat.le_refl _)).trans (p3.mono (Nat.le_refl _) (by omega))), ?_⟩, .bind (h := fun K k => Option.bind (F43 K ((), ((mid + 1 : Nat) : Int), (b : Int), lim, (), ()) (l1, ())) fun v => (L43_2 K (F43 K)) k ((), (a : Int), (mid : Int), lim, (), decide (w64 (Int.tdiv (w64 ((b : Int) - (a : Int))) (8 : Int)) ≤ ((b - mid : Nat) : Int)), fl, ()) (v.2.1, ())) e1 (.bind (call43 e2) e3 fun K k e => ?_) fun K k e => ?_⟩
    · refine comb m1 m2 lo hi (fun x h1 h2 => ?_) (fun x h1 h2 => ?_) (by rw [p3.out _ (.inr (Nat.le_refl _)), p2.out _ (.inl (by omega))]) t3 (fun i j h0 h1 h2 => ?_)
      · obtain ⟨x', g1, g2, e⟩ := p3.ins x h1 h2
        exact ⟨x', g1, g2, by rw [e, p2.out _ (.inl (by omega))]⟩
      · rw [p3.out _ (.inr (by omega))]
        obtain ⟨x', g1, g2, e⟩ := p2.ins x (by omega) h2
        exact ⟨x', by omega, g2, e⟩
      · rw [p3.out _ (.inr (by omega)), p3.out _ (.inr (by omega))]; exact t2 i j h0 h1 h2
    · exact bind_of e rfl
    · unfold prt43
      refine bind_of e ?_
      simp only [s1, s2, s3]
      exact if_neg (nlt_c (by omega))
theorem tl43_ok {n : Nat} (ih : ∀ a b l (lim : Int) x y, b - a < n → Pre a b l → Lim lim → Q43 a b l (run43 a b lim x y l)) {a b p : Nat} {l : List Ent} {lim : Int} {x y : Bool} (hn : b - a ≤ n) (hP : Pre a b l) (hL : Lim lim) (h12 : a + 1 < b) (hp : a ≤ p) (hpb : p < b) :
    Q43 a b l (fun K k => tl43 K (F43 K) k (a : Int) (b : Int) lim (p : Int) x y l) := by
  have hbig := hP.big
  have hlen := hP.len
  obtain ⟨l2, h, e⟩ := prt_ok ih hn hP hL h12 hp hpb
  refine ⟨l2, h, e.of fun K k => ?_⟩
  unfold tl43
  by_cases h0 : 0 < a
  · have q1 : a - 1 < l.length := by omega
    have qp : p < l.length := by omega
    have hb : btr (eg l (a - 1)) (eg l p) = true := (hP.lft (a - 1) p (by omega) hp hpb).strict (hP.dis.ne q1 qp (by omega))
    simp only [show w64 ((a : Int) - (1 : Int)) = ((a - 1 : Nat) : Int) from sub1 h0 (by omega)]
    refine (if_pos (by rw [decide_eq_true_eq]; omega)).trans ((at1 q1).trans ((at1 qp).trans ?_))
    exact bind_of (cmp_t hb) (if_neg (by decide))
  · exact if_neg (by rw [decide_eq_true_eq]; omega)
theorem try_ok {n : Nat} (ih : ∀ a b l (lim : Int) x y, b - a < n → Pre a b l → Lim lim → Q43 a b l (run43 a b lim x y l)) {a b p : Nat} {l : List Ent} {lim : Int} {x y : Bool} (hn : b - a ≤ n) (hP : Pre a b l) (hL : Lim lim) (h12 : a + 1 < b) (hp : a ≤ p) (hpb : p < b) :
    Q43 a b l (fun K k => try43 K (F43 K) k (a : Int) (b : Int) lim (p : Int) x y l) := by
  have hbig := hP.big
  have hlen := hP.len
  obtain ⟨fl, l1, ⟨p1, hs⟩, e1⟩ := partial_ok (a := a) (b := b) (by omega) (by omega) hP.len hP.lft
  cases fl with
  | true => exact ⟨l1, ⟨p1, hs rfl⟩, .fin e1 fun K k e => by unfold try43; exact bind_of e (if_pos rfl)⟩
  | false =>
    obtain ⟨l2, ⟨p2, h2⟩, e2⟩ := tl43_ok (x := x) (y := y) ih hn (hP.pm p1) hL h12 hp hpb
    exact ⟨l2, ⟨p1.trans p2, h2⟩, .bind e1 e2 fun K k e => by unfold try43; exact bind_of e (if_neg (show ¬ (false = true) by decide))⟩
theorem piv_ok {n : Nat} (ih : ∀ a b l (lim : Int) x y, b - a < n → Pre a b l → Lim lim → Q43 a b l (run43 a b lim x y l)) {a b : Nat} {l : List Ent} {lim : Int} {x y : Bool} (hn : b - a ≤ n) (hP : Pre a b l) (hL : Lim lim) (h12 : a + 12 < b) :
    Q43 a b l (fun K k => piv43 K (F43 K) k (a : Int) (b : Int) lim x y l) := by
  have hbig := hP.big
  have hlen := hP.len
  obtain ⟨pv, h, e0, hp, hpb⟩ := pivot_ok (l := l) h12 hP.len (by omega)
  by_cases h2 : h = 2
  · obtain ⟨l1, p1, e1⟩ := rev_ok (a := a) (b := b) (by omega) (by omega) hP.len
    have s1 : w64 (w64 ((b : Int) - (1 : Int)) - w64 ((pv : Int) - (a : Int))) = ((b - 1 - (pv - a) : Nat) : Int) := by
      rw [show w64 ((b : Int) - (1 : Int)) = ((b - 1 : Nat) : Int) from sub1 (by omega) (by omega), show w64 ((pv : Int) - (a : Int)) = ((pv - a : Nat) : Int) from subN hp (by omega)]
      exact subN (by omega) (by omega)
    have go : Q43 a b l1 (fun K k => if x = true then if y = true then try43 K (F43 K) k (a : Int) (b : Int) lim ((b - 1 - (pv - a) : Nat) : Int) x y l1 else tl43 K (F43 K) k (a : Int) (b : Int) lim ((b - 1 - (pv - a) : Nat) : Int) x y l1 else tl43 K (F43 K) k (a : Int) (b : Int) lim ((b - 1 - (pv - a) : Nat) : Int) x y l1) := by
      cases hx : x with
      | true =>
        cases hy : y with
        | true => exact try_ok (x := true) (y := true) ih hn (hP.pm p1) hL (by omega) (by omega) (by omega)
        | false => exact tl43_ok (x := true) (y := false) ih hn (hP.pm p1) hL (by omega) (by omega) (by omega)
      | false => exact tl43_ok (x := false) (y := y) ih hn (hP.pm p1) hL (by omega) (by omega) (by omega)
    obtain ⟨l2, ⟨p2, t2⟩, e2⟩ := go
    refine ⟨l2, ⟨p1.trans p2, t2⟩, .bind e1 e2 fun K k e => ?_⟩
    unfold piv43
    refine bind_of e0 ((if_pos (decide_eq_true h2)).trans ?_)
    simp only [s1]
    exact bind_of e rfl
  · have go : Q43 a b l (fun K k => if x = true then if y = true then if decide (h = (1 : Int)) = true then try43 K (F43 K) k (a : Int) (b : Int) lim (pv : Int) x y l else tl43 K (F43 K) k (a : Int) (b : Int) lim (pv : Int) x y l else tl43 K (F43 K) k (a : Int) (b : Int) lim (pv : Int) x y l else tl43 K (F43 K) k (a : Int) (b : Int) lim (pv : Int) x y l) := by
      cases hx : x with
      | true =>
        cases hy : y with
        | true =>
          cases hd : decide (h = (1 : Int)) with
          | true => exact try_ok (x := true) (y := true) ih hn hP hL (by omega) hp hpb
          | false => exact tl43_ok (x := true) (y := true) ih hn hP hL (by omega) hp hpb
        | false => exact tl43_ok (x := true) (y := false) ih hn hP hL (by omega) hp hpb
      | false => exact tl43_ok (x := false) (y := y) ih hn hP hL (by omega) hp hpb
    obtain ⟨l2, t2, e2⟩ := go
    refine ⟨l2, t2, e2.of fun K k => ?_⟩
    unfold piv43
    exact bind_of e0 (if_neg (by rw [decide_eq_true_eq]; exact h2))
theorem pdq_ok : ∀ (n a b : Nat) (l : List Ent) (lim : Int) (x y : Bool), b - a < n → Pre a b l → Lim lim → Q43 a b l (run43 a b lim x y l) := by
  intro n
  induction n with
  | zero => intro a b l lim x y h; omega
  | succ n ih =>
    intro a b l lim x y hn hP hL
    have hbig := hP.big
    have hlen := hP.len
    have s1 : w64 ((b : Int) - (a : Int)) = ((b - a : Nat) : Int) := subN hP.ab (by omega)
    by_cases h12 : b - a ≤ 12
    · obtain ⟨l1, h1, e1⟩ : ∃ l2, (Pm a b l l2 ∧ Srt a b l2) ∧ Evt (fun k => F47 k ((), (a : Int), (b : Int), (), ()) (l, ())) ((), l2, ()) := by
        rcases Nat.lt_or_ge a b with h | h
        · exact insertion_ok (by omega) h hP.len
        · refine ⟨l, ⟨Pm.rfl' .., fun i j h0 h1 h2 => by omega⟩, .now fun k => ?_⟩
          rw [F47, L47_1]
          simp only [add1 (show a < 4611686018427387904 by have := hP.ab; omega)]
          exact if_neg (nlt_c (by omega))
      refine ⟨l1, h1, .step e1 (h := fun _ _ => some ((), l1, ())) ⟨0, fun _ _ _ _ => rfl⟩ fun K k e => ?_⟩
      show L43_2 _ _ _ _ _ = _
      rw [L43_eq]
      refine (if_pos (by rw [s1, decide_eq_true_eq]; omega)).trans ?_
      exact bind_of e rfl
    have n12 : ¬ decide (w64 ((b : Int) - (a : Int)) ≤ (12 : Int)) = true := by rw [s1, decide_eq_true_eq]; omega
    by_cases h0 : lim = 0
    · obtain ⟨l1, h1, e1⟩ := heapsort_ok (a := a) (b := b) (by omega) (by omega) hP.len
      refine ⟨l1, h1, .step e1 (h := fun _ _ => some ((), l1, ())) ⟨0, fun _ _ _ _ => rfl⟩ fun K k e => ?_⟩
      show L43_2 _ _ _ _ _ = _
      rw [L43_eq]
      refine (if_neg n12).trans ((if_pos (decide_eq_true h0)).trans ?_)
      exact bind_of e rfl
    have n0 : ¬ decide (lim = (0 : Int)) = true := by rw [decide_eq_true_eq]; exact h0
    have hl1 : w64 (lim - (1 : Int)) = lim - 1 := wi (by have := hL.1; have := hL.2; omega) (by have := hL.1; have := hL.2; omega)
    cases hx : x with
    | false =>
      obtain ⟨l1, p1, e1⟩ := break_ok (a := a) (b := b) (by omega) (by omega) hP.len
      obtain ⟨l2, ⟨p2, t2⟩, e2⟩ := piv_ok (x := false) (y := y) (lim := lim - 1) ih (by omega) (hP.pm p1) ⟨by have := hL.1; omega, by have := hL.2; omega⟩ (by omega)
      refine ⟨l2, ⟨p1.trans p2, t2⟩, .step e1 e2 fun K k e => ?_⟩
      show L43_2 _ _ _ _ _ = _
      rw [L43_eq]
      refine (if_neg n12).trans ((if_neg n0).trans ((if_pos rfl).trans ?_))
      rw [hl1]
      exact bind_of e rfl
    | true =>
      obtain ⟨l2, t2, e2⟩ := piv_ok (x := true) (y := y) ih (by omega) hP hL (by omega)
      refine ⟨l2, t2, e2.step0 fun K k => ?_⟩
      show L43_2 _ _ _ _ _ = _
      rw [L43_eq]
      exact (if_neg n12).trans ((if_neg n0).trans (if_neg (by decide)))
theorem sort_ok {l : List Ent} (hb : l.length < 16777216) (hd : Dis l) : ∃ l2, l2.Perm l ∧ Srt 0 l.length l2 ∧ Evt (fun k => F30 k ((), (), ()) (l, ())) ((), l2, ()) := by
  rcases Nat.eq_zero_or_pos l.length with h | h
  · have : l = [] := List.eq_nil_of_length_eq_zero h
    subst this
    refine ⟨[], List.Perm.refl _, fun i j h0 h1 h2 => absurd h2 (by simp), 3, fun k hk => ?_⟩
    obtain ⟨k', rfl⟩ : ∃ k', k = k' + 3 := ⟨k - 3, by omega⟩
    rfl
  · obtain ⟨s, es, hs, _⟩ := len64_ok (n := l.length) (by omega) hb
    obtain ⟨l2, ⟨p, t⟩, e⟩ := pdq_ok (l.length + 1) 0 l.length l (s : Int) true true (by omega) ⟨Nat.le_refl _, hb, fun i j h => absurd h (by omega), hd, by omega⟩ ⟨by omega, by omega⟩
    obtain ⟨K, e⟩ := call43 e
    refine ⟨l2, p.perm, t, K, fun k hk => ?_⟩
    show F30 _ _ _ = _
    rw [F30]
    simp only [wu64 (show l.length < 18446744073709551616 by omega)]
    exact bind_of es (bind_of (e k hk) rfl)
end Go.Eng.He

set_option linter.unusedVariables false
namespace Go.Eng.He
open Go Go.Eng Go.Proofs
abbrev Itm := Int × Int × Int
abbrev Srd (l : List Ent) : Prop := l.Pairwise fun a b => btr a b = true
theorem srd_unique : ∀ {l l' : List Ent}, Srd l → Srd l' → l.Perm l' → l = l'
  | [], l', _, _, p => (List.nil_perm.1 p).symm
  | a :: l, [], _, _, p => (List.perm_nil.1 p)
  | a :: l, b :: l', h, h', p => by
    have e : a = b := by
      rcases List.mem_cons.1 (p.mem_iff.1 (List.mem_cons_self ..)) with e | e
      · exact e
      · rcases List.mem_cons.1 (p.mem_iff.2 (List.mem_cons_self ..)) with e2 | e2
        · exact e2.symm
        · have h1 := (List.pairwise_cons.1 h').1 a e
          have h2 := btr_asym _ _ ((List.pairwise_cons.1 h).1 b e2)
          rw [h1] at h2; cases h2
    subst e
    rw [srd_unique (List.pairwise_cons.1 h).2 (List.pairwise_cons.1 h').2 (List.Perm.cons_inv p)]
theorem eg_get {l : List Ent} {i : Nat} (h : i < l.length) : eg l i = l[i] := by simp [eg, List.getD_eq_getElem?_getD, h]
theorem srt_srd {l : List Ent} (h : Srt 0 l.length l) (hd : Dis l) : Srd l := by
  refine List.pairwise_iff_getElem.2 fun i j hi hj hij => ?_
  rw [← eg_get hi, ← eg_get hj]
  exact (h i j (Nat.zero_le _) hij hj).strict (hd.ne hi hj (by omega))
abbrev X3 (s : HS) (stop : Int) (acc : List Ent) : OPL.T os19_8003 := ((s.m, (), (), (), (), s.t, s.k, s.md, ()), s.all, s.fr, (((), ()), (), (), ()), ((), ()), s.bl, s.ba, (((), ()), (), (), ()), s.wl, s.wa, (stop, ()), ((), ()), ((), ()), (), acc, ())
abbrev X9 (s : HS) (stop : Int) (out : List Itm) (l : List Ent) : OPL.T os19_8009 := ((s.m, (), (), (), (), s.t, s.k, s.md, ()), s.all, s.fr, (((), ()), (), (), ()), ((), ()), s.bl, s.ba, (((), ()), (), (), ()), s.wl, s.wa, (stop, ()), ((), ()), ((), ()), (), out, l, ())
abbrev XR (s : HS) (out : List Itm) : AT alts19 := (((), true, ()), (s.m, (), (), (), (), s.t, s.k, s.md, ()), s.all, s.fr, (((), ()), (), (), ()), ((), ()), s.bl, s.ba, (((), ()), (), (), ()), s.wl, s.wa, out, ())
theorem take_more {α : Type} {l : List α} {i : Nat} {x d : α} (h : i < l.length) (e : l.getD i d = x) : l.take i ++ [x] = l.take (i + 1) := by
  rw [List.take_add_one, ← e]
  simp [List.getD_eq_getElem?_getD, h]
theorem gather {s : HS} (hI : Inv s) {stop : Int} {r : AT alts19} : ∀ (d i : Nat), i + d = s.bl.length →
    Ev2 (fun K k => L19_8003 K k (((), ()), (), (), (), (s.bl.length : Int), (s.bl.length : Int), (), (), ()) (X3 s stop (live s))) r →
    Ev2 (fun K k => L19_8003 K k (((), ()), (), (), (), (s.bl.length : Int), (i : Int), (), (), ()) (X3 s stop ((live s).take i))) r := by
  intro d
  induction d with
  | zero =>
    intro i hi h
    obtain rfl : i = s.bl.length := by omega
    rw [show (live s).take s.bl.length = live s from by rw [← live_len]; exact List.take_length]
    exact h
  | succ d ih =>
    intro i hi h
    have hib : i < s.bl.length := by omega
    have mhi := hI.mhi; have cap := hI.cap; have cnt := hI.cnt
    have hb := hI.bd (gi s.bl i) (List.mem_append_left _ (gi_mem hib))
    have hlen : ((live s).take i).length = i := by rw [List.length_take, live_len]; omega
    refine (ih (i + 1) (by omega) h).step0 fun K k => ?_
    show L19_8003 _ _ _ _ = _
    rw [L19_8003]
    simp only [add1 (show i < 4611686018427387904 by omega)]
    refine (if_pos (lt_c hib)).trans ((at1 hib).trans ((if_pos (inR hb)).trans ((if_pos hb.2).trans ((if_pos (show (((live s).take i).length + 1) * 32 ≤ 140737488355328 by rw [hlen]; omega)).trans ?_))))
    rw [show (live s).take i ++ [List.getD s.all (Int.toNat (List.getD s.bl (Int.toNat (i : Int)) (0 : Int))) ent0] = (live s).take (i + 1) from take_more (d := ent0) (by rw [live_len]; exact hib) (by
      show (s.bl.map (en s.all)).getD i ent0 = _
      rw [List.getD_eq_getElem?_getD, List.getElem?_map, show s.bl[i]? = some (gi s.bl i) from by simp [gi, List.getD_eq_getElem?_getD, hib]]
      rfl)]
def many (stop : Int) (n : Nat) : Nat := if 0 < stop ∧ stop ≤ (n : Int) then stop.toNat else n
theorem many_le (stop : Int) (n : Nat) : many stop n ≤ n := by
  unfold many; split
  · omega
  · exact Nat.le_refl _
theorem tell {s : HS} {stop : Int} {l : List Ent} (hl : l.length < 16777216) : ∀ (d j : Nat), j + d = many stop l.length → (0 < stop → (j : Int) < stop) →
    Ev2 (fun K k => L19_8009 K k (((), ()), (), (l.length : Int), (j : Int), (), (), ()) (X9 s stop ((l.take j).map itmE) l)) (XR s ((l.take (many stop l.length)).map itmE)) := by
  intro d
  induction d with
  | zero =>
    intro j hj hs
    have : ¬ j < l.length := by
      intro h
      unfold many at hj
      split at hj
      · rename_i hc; have := hs hc.1; omega
      · omega
    obtain rfl : j = many stop l.length := by omega
    refine .now fun K k => ?_
    rw [L19_8009]
    exact if_neg (nlt_c (by omega))
  | succ d ih =>
    intro j hj hs
    have hm := many_le stop l.length
    have hjl : j < l.length := by omega
    have hlen : ((l.take j).map itmE).length = j := by rw [List.length_map, List.length_take]; omega
    have hmore : (l.take j).map itmE ++ [itmE (List.getD l (Int.toNat (j : Int)) ent0)] = (l.take (j + 1)).map itmE := by
      rw [← take_more (d := ent0) (x := List.getD l (Int.toNat (j : Int)) ent0) hjl rfl, List.map_append]; rfl
    have hlen2 : ((l.take (j + 1)).map itmE).length = j + 1 := by rw [List.length_map, List.length_take]; omega
    by_cases hc : ((j + 1 : Nat) : Int) = stop
    · have e : many stop l.length = j + 1 := by
        unfold many
        rw [if_pos (by omega)]; omega
      refine .now fun K k => ?_
      rw [L19_8009]
      refine (if_pos (lt_c hjl)).trans ((at1 hjl).trans ((if_pos (show (((l.take j).map itmE).length + 1) * 24 ≤ 140737488355328 by rw [hlen]; omega)).trans ?_))
      rw [hmore, e]
      exact if_pos (by rw [decide_eq_true_eq, hlen2]; exact hc)
    · refine (ih (j + 1) (by omega) (fun h => by have := hs h; omega)).step0 fun K k => ?_
      show L19_8009 _ _ _ _ = _
      rw [L19_8009]
      simp only [add1 (show j < 4611686018427387904 by omega)]
      refine (if_pos (lt_c hjl)).trans ((at1 hjl).trans ((if_pos (show (((l.take j).map itmE).length + 1) * 24 ≤ 140737488355328 by rw [hlen]; omega)).trans ?_))
      rw [hmore]
      exact if_neg (by rw [decide_eq_true_eq, hlen2]; exact hc)
theorem all_told {s : HS} (hI : Inv s) {E : List Ent} (hE : Srd E) (hp : E.Perm (live s)) (hd : Dis (live s)) (stop : Int) :
    Evt (fun k => F19 k ((), stop, ()) s.O) (XR s ((E.take (many stop E.length)).map itmE)) := by
  have mhi := hI.mhi; have cap := hI.cap; have cnt := hI.cnt
  have hll := live_len s
  obtain ⟨l2, p2, s2, e2⟩ := sort_ok (l := live s) (by omega) hd
  obtain rfl : l2 = E := srd_unique (srt_srd (by rw [p2.length_eq]; exact s2) (hd.perm p2)) hE (p2.trans hp.symm)
  have hln : l2.length = s.bl.length := by rw [p2.length_eq, hll]
  have h9 := tell (s := s) (stop := stop) (l := l2) (by omega) (many stop l2.length) 0 (by omega) (fun h => by omega)
  have h3 := gather hI (stop := stop) s.bl.length 0 (by omega) (.step e2 h9 fun K k e => by
    show L19_8003 _ _ _ _ = _
    rw [L19_8003]
    exact (if_neg (nlt_c (Nat.le_refl _))).trans (bind_of e rfl))
  obtain ⟨K, h⟩ := h3.diag
  refine ⟨K, fun k hk => ?_⟩
  show F19 _ _ _ = _
  rw [F19]
  refine bind_of rfl ?_
  refine bind_of (v := (true, s.O)) rfl ?_
  exact (if_neg (show ¬ (!true) = true by decide)).trans (h k hk)
theorem same_loop {a b : List Itm} {n : Nat} (ha : n ≤ a.length) (hb : n ≤ b.length) (hn : n < 1000000000) (he : ∀ i, i < n → a.getD i itm0 = b.getD i itm0) : ∀ (d i : Nat), i + d = n → Evt (fun k => L37_7 k (a, b, (n : Int), (i : Int), ()) ()) (true, ()) := by
  intro d
  induction d with
  | zero =>
    intro i hi
    refine .now fun k => ?_
    rw [L37_7]
    exact if_neg (nlt_c (by omega))
  | succ d ih =>
    intro i hi
    refine (ih (i + 1) (by omega)).step fun k => ?_
    show L37_7 _ _ _ = _
    rw [L37_7]
    simp only [add1 (show i < 4611686018427387904 by omega)]
    refine (if_pos (lt_c (by omega))).trans ((if_pos (inN (by omega))).trans ((if_pos (inN (by omega))).trans ?_))
    refine bind_of (v := (true, ())) ?_ (if_neg (by decide))
    rw [show Int.toNat (i : Int) = i from rfl, he i (by omega), F33]
    simp
theorem same_ok {E : List Ent} (hn : E.length < 1000000000) (stop : Int) : Evt (fun k => F37 k ((E.take (many stop E.length)).map itmE, E.map itmE, stop, ()) ()) (true, ()) := by
  have hle := many_le stop E.length
  have hla : ((E.take (many stop E.length)).map itmE).length = many stop E.length := by rw [List.length_map, List.length_take]; omega
  have hlb : (E.map itmE).length = E.length := List.length_map ..
  obtain ⟨K, h⟩ := same_loop (a := (E.take (many stop E.length)).map itmE) (b := E.map itmE) (n := many stop E.length) (by omega) (by omega) (by omega) (fun i hi => by
    simp only [List.getD_eq_getElem?_getD, List.getElem?_map, List.getElem?_take, if_pos hi]) (many stop E.length) 0 (by omega)
  refine ⟨K, fun k hk => ?_⟩
  have h : L37_7 k ((E.take (many stop E.length)).map itmE, E.map itmE, ((many stop E.length : Nat) : Int), (0 : Int), ()) () = some (true, ()) := h k hk
  show F37 _ _ _ = _
  rw [F37]
  by_cases h0 : 0 < stop
  · refine (if_pos (decide_eq_true h0)).trans ?_
    by_cases h1 : stop < (E.length : Int)
    · have em : ((many stop E.length : Nat) : Int) = stop := by unfold many; rw [if_pos (by omega)]; omega
      refine (if_pos (by rw [hlb]; exact decide_eq_true h1)).trans ((if_neg (by rw [hla, em, decide_eq_true rfl]; decide)).trans ?_)
      rw [em] at h; exact h
    · have em : many stop E.length = E.length := by
        unfold many; split
        · omega
        · rfl
      refine (if_neg (by rw [hlb, decide_eq_true_eq]; exact h1)).trans ((if_neg (by rw [hla, hlb, em, decide_eq_true rfl]; decide)).trans ?_)
      rw [em] at h ⊢
      rw [hlb]; exact h
  · have em : many stop E.length = E.length := by unfold many; rw [if_neg (fun h => h0 h.1)]
    refine (if_neg (by rw [decide_eq_true_eq]; exact h0)).trans ((if_neg (by rw [hla, hlb, em, decide_eq_true rfl]; decide)).trans ?_)
    rw [em] at h ⊢
    rw [hlb]; exact h
end Go.Eng.He

set_option linter.unusedVariables false
namespace Go.Eng.He
open Go Go.Eng Go.Proofs
structure RS where
  m : Int
  L : List Itm
  g : Int
  b : Bool
abbrev RS.O (r : RS) : OPL.T os35 := ((r.m, (), r.g, r.b, ()), r.L, ())
abbrev RMo : List OP := match alts34 with
  | (_, o) :: _ => o
  | [] => []
abbrev RS.M (r : RS) : OPL.T RMo := ((r.m, (), r.g, r.b, ()), (), r.L, ())
structure Rl (s : HS) (r : RS) : Prop where
  inv : Inv s
  le : (s.bl.length : Int) ≤ s.m
  m : r.m = s.m
  g : r.g = s.k
  b : r.b = s.md
  dis : Dis (live s)
  t0 : 0 ≤ s.t
  tl : ∀ e ∈ live s, 0 ≤ e.2.2.2 ∧ e.2.2.2 ≤ s.t
  E : ∃ E : List Ent, Srd E ∧ E.Perm (live s) ∧ r.L = E.map itmE
theorem Rl.len {s : HS} {r : RS} (h : Rl s r) : r.L.length = s.bl.length := by
  obtain ⟨E, _, p, e⟩ := h.E
  rw [e, List.length_map, p.length_eq, live_len]
theorem Dis.le {l l' : List Ent} (h : Dis l) (p : l'.Sublist l) : Dis l' := List.Pairwise.sublist (p.map _) h
theorem btr_of_turn {x y : Ent} (h : btr x y = false) (hne : x.2.2.2 ≠ y.2.2.2) : btr y x = true := W.strict (x := y) (y := x) h hne.symm
theorem first_of {E : List Ent} {d : Ent} (hE : Srd E) (hd : d ∈ E) (hmax : ∀ e ∈ E, btr e d = false) : ∃ E', E = d :: E' := by
  cases E with
  | nil => cases hd
  | cons a E' =>
    rcases List.mem_cons.1 hd with e | e
    · exact ⟨E', by rw [e]⟩
    · have h1 := (List.pairwise_cons.1 hE).1 d e
      rw [hmax a (List.mem_cons_self ..)] at h1; cases h1
theorem last_of {X : List Ent} {z d : Ent} (hE : Srd (X ++ [z])) (hd : d ∈ X ++ [z]) (hmin : ∀ e ∈ X ++ [z], btr d e = false) : d = z := by
  rcases List.mem_append.1 hd with h | h
  · have h1 := (List.pairwise_append.1 hE).2.2 d h z (List.mem_singleton.2 rfl)
    rw [hmin z (List.mem_append_right _ (List.mem_singleton.2 rfl))] at h1; cases h1
  · exact List.mem_singleton.1 h
theorem btr_self (x : Ent) : btr x x = false := W.rfl' x
theorem rlen_ok (r : RS) : F40 ((), ()) r.O = some ((r.L.length : Int), r.O) := rfl
theorem rmark_ok (r : RS) : F39 ((), ()) r.O = some ((r.g, r.b, ()), r.O) := rfl
theorem rtop_nil {r : RS} (h : r.L = []) : F35 ((), ()) r.O = some (((0, 0, 0, ()), false, ()), r.O) := by
  rw [F35]
  exact if_pos (by rw [decide_eq_true_eq, h]; rfl)
theorem rtop_cons {r : RS} {x : Itm} {L : List Itm} (h : r.L = x :: L) : F35 ((), ()) r.O = some (((x.1, x.2.1, x.2.2, ()), true, ()), r.O) := by
  obtain ⟨m, L0, g, b⟩ := r
  simp only at h
  subst h
  rw [F35]
  refine (if_neg (by rw [decide_eq_true_eq, List.length_cons]; omega)).trans ((if_pos (by rw [List.length_cons]; omega)).trans ((if_pos (by rw [List.length_cons]; omega)).trans ?_))
  rfl
theorem rworst_nil {r : RS} (h : r.L = []) : F36 ((), ()) r.O = some (((0, 0, 0, ()), false, ()), r.O) := by
  rw [F36]
  exact if_pos (by rw [decide_eq_true_eq, h]; rfl)
theorem rworst_app {r : RS} {x : Itm} {L : List Itm} (h : r.L = L ++ [x]) (hl : L.length < 1000000000) : F36 ((), ()) r.O = some (((x.1, x.2.1, x.2.2, ()), true, ()), r.O) := by
  obtain ⟨m, L0, g, b⟩ := r
  simp only at h
  subst h
  rw [F36]
  have hlen : (L ++ [x]).length = L.length + 1 := by simp
  have e1 : IntKind.wrap IntKind.i64 (((L ++ [x]).length : Int) - (1 : Int)) = (L.length : Int) := by rw [hlen, wi (by omega) (by omega)]; omega
  simp only [e1]
  refine (if_neg (by rw [decide_eq_true_eq, hlen]; omega)).trans ((at1 (by rw [hlen]; omega)).trans ?_)
  have e2 : List.getD (L ++ [x]) (Int.toNat (L.length : Int)) itm0 = x := by
    rw [show Int.toNat (L.length : Int) = L.length from rfl]; simp [List.getD_eq_getElem?_getD]
  rw [e2]
theorem rall_ok {r : RS} (hl : r.L.length < 1000000000) : F38 ((), ()) r.O = some ((), (r.m, (), r.g, r.b, ()), r.L, r.L, ()) := by
  rw [F38]
  exact if_pos (by omega)
theorem rpop_nil {r : RS} (h : r.L = []) : F34 ((), ()) r.O = some (((0, 0, 0, ()), false, ()), r.M) := by
  rw [F34]
  refine bind_of (rtop_nil h) ?_
  exact if_neg (show ¬ (false = true) by decide)
theorem rpop_cons {r : RS} {x : Itm} {L : List Itm} (h : r.L = x :: L) (hl : L.length < 1000000000) : F34 ((), ()) r.O = some (((x.1, x.2.1, x.2.2, ()), true, ()), (RS.mk r.m L r.g r.b).M) := by
  rw [F34]
  refine bind_of (rtop_cons h) ?_
  obtain ⟨m, L0, g, b⟩ := r
  simp only at h
  subst h
  refine (if_pos rfl).trans ((if_pos (by show (0 : Int) ≤ 1 ∧ (1 : Int) ≤ (((x :: L).length : Nat) : Int); rw [List.length_cons]; omega)).trans ?_)
  have e : List.take ((x :: L).length - 1) (List.drop 1 (x :: L)) = L := by
    rw [List.length_cons]; simp
  show (if (0 + List.length (List.take ((x :: L).length - 1) (List.drop 1 (x :: L)))) * 24 ≤ 140737488355328 then some (((x.1, x.2.1, x.2.2, ()), true, ()), (m, (), g, b, ()), (), [] ++ List.take ((x :: L).length - 1) (List.drop 1 (x :: L)), ()) else none) = _
  rw [e]
  exact if_pos (by omega)
def gt2 (x y : Itm) : Prop := y.1 < x.1 ∨ (x.1 = y.1 ∧ y.2.1 < x.2.1)
abbrev P4 (r : RS) (x : Itm) : OPL.T os32_4 := ((r.m, (), r.g, r.b, ()), (), r.L, (x.1, x.2.1, x.2.2, ()), ((0 : Int), (0 : Int), (0 : Int), ()), ())
def putR (r : RS) (x : Itm) (L : List Itm) : AT alts32 :=
  if (L.length : Int) ≤ r.m then (((0, 0, 0, ()), false, 0, ()), (RS.mk r.m L r.g r.b).M)
  else ((((L.getD (L.length - 1) itm0).1, (L.getD (L.length - 1) itm0).2.1, (L.getD (L.length - 1) itm0).2.2, ()), true, 0, ()), (RS.mk r.m (L.take (L.length - 1)) (if r.b = false then (L.getD (L.length - 1) itm0).1 else if r.g < (L.getD (L.length - 1) itm0).1 then (L.getD (L.length - 1) itm0).1 else r.g) true).M)
abbrev at32 (L : List Itm) (i : Nat) (x : Itm) : List Itm := L.take i ++ (x :: L.drop i)
theorem put32_eq {L : List Itm} {i : Nat} (h : i ≤ L.length) (x : Itm) : put32 (i : Int) L x = at32 L i x := by
  unfold put32 at32
  rw [show Int.toNat (i : Int) = i from rfl]
  simp only [List.drop_zero, Nat.sub_zero, List.nil_append]
  rw [List.take_of_length_le (l := L.drop i) (by rw [List.length_drop]; omega)]
  rfl
theorem rput_end {r : RS} {x : Itm} {i : Nat} (hi : i ≤ r.L.length) (hl : r.L.length < 1000000000) (hn : i < r.L.length → ¬ gt2 (r.L.getD i itm0) x) (k : Nat) :
    L32_4 (k + 1) ((), (), (), (i : Int), ()) (P4 r x) = some (putR r x (at32 r.L i x)) := by
  obtain ⟨m, L, g, b⟩ := r
  obtain ⟨x1, x2, x3⟩ := x
  simp only at hi hl hn
  have hlen : (at32 L i (x1, x2, x3)).length = L.length + 1 := by
    unfold at32; rw [List.length_append, List.length_cons, List.length_take, List.length_drop]; omega
  have htail : (if (0 : Int) ≤ (i : Int) ∧ (i : Int) ≤ (L.length : Int) then if ((1 : Nat) + List.length (List.take (List.length L - Int.toNat (i : Int)) (List.drop (Int.toNat (i : Int)) L))) * (24 : Nat) ≤ (140737488355328 : Nat) then if (0 : Int) ≤ (i : Int) ∧ (i : Int) ≤ (↑(List.length L) : Int) then if ((0 : Nat) + List.length (List.take (Int.toNat (i : Int) - (0 : Nat)) (List.drop (0 : Nat) L))) * (24 : Nat) ≤ (140737488355328 : Nat) then if (List.length ([] ++ List.take (Int.toNat (i : Int) - (0 : Nat)) (List.drop (0 : Nat) L)) + List.length ([(x1, x2, x3)] ++ List.take (List.length L - Int.toNat (i : Int)) (List.drop (Int.toNat (i : Int)) L))) * (24 : Nat) ≤ (140737488355328 : Nat) then if decide ((↑(List.length (put32 (i : Int) L (x1, x2, x3))) : Int) ≤ m) = true then some ((((0 : Int), (0 : Int), (0 : Int), ()), false, (0 : Int), ()), (m, (), g, b, ()), (), put32 (i : Int) L (x1, x2, x3), ()) else if (0 : Int) ≤ lastI (put32 (i : Int) L (x1, x2, x3)) ∧ lastI (put32 (i : Int) L (x1, x2, x3)) < (↑(List.length (put32 (i : Int) L (x1, x2, x3))) : Int) then if Int.toNat (lastI (put32 (i : Int) L (x1, x2, x3))) < List.length (put32 (i : Int) L (x1, x2, x3)) then if (0 : Int) ≤ lastI (put32 (i : Int) L (x1, x2, x3)) ∧ lastI (put32 (i : Int) L (x1, x2, x3)) ≤ (↑(List.length (put32 (i : Int) L (x1, x2, x3))) : Int) then if (!b) = true then some (((itmT (List.getD (put32 (i : Int) L (x1, x2, x3)) (Int.toNat (lastI (put32 (i : Int) L (x1, x2, x3)))) itm0)), true, (0 : Int), ()), (m, (), (List.getD (put32 (i : Int) L (x1, x2, x3)) (Int.toNat (lastI (put32 (i : Int) L (x1, x2, x3)))) itm0).1, true, ()), (), List.take (Int.toNat (lastI (put32 (i : Int) L (x1, x2, x3))) - (0 : Nat)) (List.drop (0 : Nat) (put32 (i : Int) L (x1, x2, x3))), ()) else if decide (g < (List.getD (put32 (i : Int) L (x1, x2, x3)) (Int.toNat (lastI (put32 (i : Int) L (x1, x2, x3)))) itm0).1) = true then some (((itmT (List.getD (put32 (i : Int) L (x1, x2, x3)) (Int.toNat (lastI (put32 (i : Int) L (x1, x2, x3)))) itm0)), true, (0 : Int), ()), (m, (), (List.getD (put32 (i : Int) L (x1, x2, x3)) (Int.toNat (lastI (put32 (i : Int) L (x1, x2, x3)))) itm0).1, true, ()), (), List.take (Int.toNat (lastI (put32 (i : Int) L (x1, x2, x3))) - (0 : Nat)) (List.drop (0 : Nat) (put32 (i : Int) L (x1, x2, x3))), ()) else some (((itmT (List.getD (put32 (i : Int) L (x1, x2, x3)) (Int.toNat (lastI (put32 (i : Int) L (x1, x2, x3)))) itm0)), true, (0 : Int), ()), (m, (), g, true, ()), (), List.take (Int.toNat (lastI (put32 (i : Int) L (x1, x2, x3))) - (0 : Nat)) (List.drop (0 : Nat) (put32 (i : Int) L (x1, x2, x3))), ()) else none else none else none else none else none else none else none else none : Option (AT alts32)) = some (putR ⟨m, L, g, b⟩ (x1, x2, x3) (at32 L i (x1, x2, x3))) := by
    rw [put32_eq hi]
    generalize at32 L i (x1, x2, x3) = Q at hlen
    have el : lastI Q = ((L.length : Nat) : Int) := by unfold lastI; rw [hlen, wi (by omega) (by omega)]; omega
    rw [el, show Int.toNat ((L.length : Nat) : Int) = L.length from rfl]
    refine (if_pos (by omega)).trans ((if_pos (by rw [List.length_take]; omega)).trans ((if_pos (by omega)).trans ((if_pos (by rw [List.length_take]; omega)).trans ((if_pos (by simp only [List.length_append, List.length_take, List.length_drop, List.length_cons, List.length_nil]; omega)).trans ?_))))
    unfold putR
    by_cases hc : ((Q.length : Nat) : Int) ≤ m
    · rw [if_pos hc]; exact if_pos (decide_eq_true hc)
    · rw [if_neg hc, show Q.length - 1 = L.length by omega]
      refine (if_neg (by rw [decide_eq_true_eq]; exact hc)).trans ((if_pos (by omega)).trans ((if_pos (by omega)).trans ((if_pos (by omega)).trans ?_)))
      cases b with
      | false => exact if_pos rfl
      | true =>
        refine (if_neg (by decide)).trans ?_
        rw [if_neg (show ¬ (true = false) by decide)]
        by_cases hg : g < (List.getD Q L.length itm0).1
        · rw [if_pos hg]; exact if_pos (decide_eq_true hg)
        · rw [if_neg hg]; exact if_neg (by rw [decide_eq_true_eq]; exact hg)
  rw [L32_4]
  by_cases hc : i < L.length
  · have hn := hn hc
    unfold gt2 at hn
    have n1 : ¬ decide (x1 < (List.getD L (Int.toNat (i : Int)) itm0).1) = true := by rw [decide_eq_true_eq]; exact fun h => hn (.inl h)
    refine (if_pos (lt_c hc)).trans ((at1 hc).trans ((if_neg n1).trans ((at1 hc).trans ?_)))
    by_cases h2 : (List.getD L (Int.toNat (i : Int)) itm0).1 = x1
    · have n2 : ¬ decide (x2 < (List.getD L (Int.toNat (i : Int)) itm0).2.1) = true := by rw [decide_eq_true_eq]; exact fun h => hn (.inr ⟨h2, h⟩)
      refine (if_pos (decide_eq_true h2)).trans ((at1 hc).trans ((if_neg n2).trans ?_))
      exact htail
    · refine (if_neg (by rw [decide_eq_true_eq]; exact h2)).trans ?_
      exact htail
  · exact (if_neg (nlt_c (show L.length ≤ i by omega))).trans htail
theorem rput_ok {r : RS} {x : Itm} (hl : r.L.length < 1000000000) : ∀ (d i : Nat), i + d = r.L.length → (∀ j, j < i → gt2 (r.L.getD j itm0) x) →
    ∃ n, n ≤ r.L.length ∧ (∀ j, j < n → gt2 (r.L.getD j itm0) x) ∧ (n < r.L.length → ¬ gt2 (r.L.getD n itm0) x) ∧ Evt (fun k => L32_4 k ((), (), (), (i : Int), ()) (P4 r x)) (putR r x (at32 r.L n x)) := by
  intro d
  induction d with
  | zero => intro i hi hg; exact ⟨i, by omega, hg, fun h => by omega, .now fun k => rput_end (by omega) hl (fun h => by omega) k⟩
  | succ d ih =>
    intro i hi hg
    have hc : i < r.L.length := by omega
    by_cases h : gt2 (r.L.getD i itm0) x
    · obtain ⟨n, h1, h2, h3, h4⟩ := ih (i + 1) (by omega) (fun j hj => if e : j = i then e ▸ h else hg j (by omega))
      refine ⟨n, h1, h2, h3, h4.step fun k => ?_⟩
      show L32_4 _ _ _ = _
      obtain ⟨m, L, g, b⟩ := r
      obtain ⟨x1, x2, x3⟩ := x
      rw [L32_4]
      simp only [add1 (show i < 4611686018427387904 by simp only at hc hl; omega)]
      refine (if_pos (lt_c hc)).trans ((at1 hc).trans ?_)
      rcases h with h | ⟨h, h'⟩
      · exact if_pos (decide_eq_true h)
      · refine (if_neg (by rw [decide_eq_true_eq]; intro h2; have h2 : x1 < (L.getD i itm0).1 := h2; have h : (L.getD i itm0).1 = x1 := h; omega)).trans ((at1 hc).trans ((if_pos (decide_eq_true h)).trans ((at1 hc).trans ?_)))
        exact if_pos (decide_eq_true h')
    · exact ⟨i, by omega, hg, fun _ => h, .now fun k => rput_end (by omega) hl (fun _ => h) k⟩
end Go.Eng.He

set_option linter.unusedVariables false
namespace Go.Eng.He
open Go Go.Eng Go.Proofs
def Le {α : Type} (a b : Option α) : Prop := ∀ r, a = some r → b = some r
theorem le_rfl' {α : Type} (a : Option α) : Le a a := fun _ h => h
theorem le_none {α : Type} (a : Option α) : Le none a := fun _ h => nomatch h
theorem le_ite {α : Type} {c : Prop} [inst : Decidable c] {a a' b b' : Option α} (h : Le a a') (h2 : Le b b') : Le (if c then a else b) (if c then a' else b') := by
  intro r h3
  by_cases hc : c
  · rw [if_pos hc] at h3 ⊢; exact h r h3
  · rw [if_neg hc] at h3 ⊢; exact h2 r h3
theorem le_bind {α β : Type} {a a' : Option α} {f f' : α → Option β} (h : Le a a') (h2 : ∀ v, Le (f v) (f' v)) : Le (Option.bind a f) (Option.bind a' f') := by
  intro r h3
  cases ha : a with
  | none => rw [ha] at h3; cases h3
  | some v => rw [ha] at h3; rw [h v ha]; exact h2 v r h3
theorem le_up {α : Type} {f : Nat → Option α} (h : ∀ k, Le (f k) (f (k + 1))) {k k' : Nat} (hk : k ≤ k') {r : α} (e : f k = some r) : f k' = some r := by
  induction hk with
  | refl => exact e
  | step _ ih => exact h _ _ ih
theorem mL41b_0 : ∀ (k : Nat) x y, Le (L41b_0 k x y) (L41b_0 (k + 1) x y)
  | 0, _, _ => le_none _
  | k + 1, ⟨⟨⟩, ⟨a1, ⟨⟩⟩⟩, ⟨⟨⟨⟨⟩, ⟨⟩⟩, ⟨⟨⟩, ⟨⟨⟩, ⟨⟩⟩⟩⟩, ⟨⟨⟨⟩, ⟨⟩⟩, ⟨⟨a2, ⟨⟨⟩, ⟨⟨⟩, ⟨⟨⟩, ⟨⟨⟩, ⟨a3, ⟨a4, ⟨a5, ⟨⟩⟩⟩⟩⟩⟩⟩⟩⟩, ⟨a6, ⟨a7, ⟨⟨⟨⟨⟩, ⟨⟩⟩, ⟨⟨⟩, ⟨⟨⟩, ⟨⟩⟩⟩⟩, ⟨a8, ⟨a9, ⟨a10, ⟨a11, ⟨⟩⟩⟩⟩⟩⟩⟩⟩⟩⟩⟩ => by
    rw [L41b_0, L41b_0]
    repeat' (first | refine le_ite ?_ ?_ | refine le_bind ?_ (fun _ => ?_) | exact mL41b_0 k _ _ | exact le_rfl' _)
theorem mF41b (k : Nat) : ∀ x y, Le (F41b k x y) (F41b (k + 1) x y) := by
  rintro ⟨⟨⟩, ⟨a1, ⟨⟩⟩⟩ ⟨⟨⟨⟨⟩, ⟨⟩⟩, ⟨⟨⟩, ⟨⟨⟩, ⟨⟩⟩⟩⟩, ⟨⟨⟨⟩, ⟨⟩⟩, ⟨⟨a2, ⟨⟨⟩, ⟨⟨⟩, ⟨⟨⟩, ⟨⟨⟩, ⟨a3, ⟨a4, ⟨a5, ⟨⟩⟩⟩⟩⟩⟩⟩⟩⟩, ⟨a6, ⟨a7, ⟨⟨⟨⟨⟩, ⟨⟩⟩, ⟨⟨⟩, ⟨⟨⟩, ⟨⟩⟩⟩⟩, ⟨a8, ⟨a9, ⟨a10, ⟨a11, ⟨⟩⟩⟩⟩⟩⟩⟩⟩⟩⟩⟩
  rw [F41b, F41b]
  repeat' (first | exact mL41b_0 _ _ _ | refine le_ite ?_ ?_ | refine le_bind ?_ (fun _ => ?_) | exact le_rfl' _)
theorem mL46b_0 : ∀ (k : Nat) x y, Le (L46b_0 k x y) (L46b_0 (k + 1) x y)
  | 0, _, _ => le_none _
  | k + 1, ⟨⟨⟩, ⟨a1, ⟨⟩⟩⟩, ⟨⟨⟨⟨⟩, ⟨⟩⟩, ⟨⟨⟩, ⟨⟨⟩, ⟨⟩⟩⟩⟩, ⟨⟨⟨⟩, ⟨⟩⟩, ⟨⟨a2, ⟨⟨⟩, ⟨⟨⟩, ⟨⟨⟩, ⟨⟨⟩, ⟨a3, ⟨a4, ⟨a5, ⟨⟩⟩⟩⟩⟩⟩⟩⟩⟩, ⟨a6, ⟨a7, ⟨⟨⟨⟨⟩, ⟨⟩⟩, ⟨⟨⟩, ⟨⟨⟩, ⟨⟩⟩⟩⟩, ⟨a8, ⟨a9, ⟨a10, ⟨a11, ⟨⟩⟩⟩⟩⟩⟩⟩⟩⟩⟩⟩ => by
    rw [L46b_0, L46b_0]
    repeat' (first | refine le_ite ?_ ?_ | refine le_bind ?_ (fun _ => ?_) | exact mL46b_0 k _ _ | exact le_rfl' _)
theorem mF46b (k : Nat) : ∀ x y, Le (F46b k x y) (F46b (k + 1) x y) := by
  rintro ⟨⟨⟩, ⟨a1, ⟨⟩⟩⟩ ⟨⟨⟨⟨⟩, ⟨⟩⟩, ⟨⟨⟩, ⟨⟨⟩, ⟨⟩⟩⟩⟩, ⟨⟨⟨⟩, ⟨⟩⟩, ⟨⟨a2, ⟨⟨⟩, ⟨⟨⟩, ⟨⟨⟩, ⟨⟨⟩, ⟨a3, ⟨a4, ⟨a5, ⟨⟩⟩⟩⟩⟩⟩⟩⟩⟩, ⟨a6, ⟨a7, ⟨⟨⟨⟨⟩, ⟨⟩⟩, ⟨⟨⟩, ⟨⟨⟩, ⟨⟩⟩⟩⟩, ⟨a8, ⟨a9, ⟨a10, ⟨a11, ⟨⟩⟩⟩⟩⟩⟩⟩⟩⟩⟩⟩
  rw [F46b, F46b]
  repeat' (first | exact mL46b_0 _ _ _ | refine le_ite ?_ ?_ | refine le_bind ?_ (fun _ => ?_) | exact le_rfl' _)
theorem mF42b (k : Nat) : ∀ x y, Le (F42b k x y) (F42b (k + 1) x y) := by
  rintro ⟨⟨⟩, ⟨a1, ⟨⟩⟩⟩ ⟨⟨⟨⟨⟩, ⟨⟩⟩, ⟨⟨⟩, ⟨⟨⟩, ⟨⟩⟩⟩⟩, ⟨⟨⟨⟩, ⟨⟩⟩, ⟨⟨a2, ⟨⟨⟩, ⟨⟨⟩, ⟨⟨⟩, ⟨⟨⟩, ⟨a3, ⟨a4, ⟨a5, ⟨⟩⟩⟩⟩⟩⟩⟩⟩⟩, ⟨a6, ⟨a7, ⟨⟨⟨⟨⟩, ⟨⟩⟩, ⟨⟨⟩, ⟨⟨⟩, ⟨⟩⟩⟩⟩, ⟨a8, ⟨a9, ⟨a10, ⟨a11, ⟨⟩⟩⟩⟩⟩⟩⟩⟩⟩⟩⟩
  rw [F42b, F42b]
  repeat' (first | exact mF41b _ _ _ | exact mF46b _ _ _ | refine le_ite ?_ ?_ | refine le_bind ?_ (fun _ => ?_) | exact le_rfl' _)
theorem mL27b_0 (K : Nat) : ∀ (k : Nat) x y, Le (L27b_0 K k x y) (L27b_0 (K + 1) (k + 1) x y)
  | 0, _, _ => le_none _
  | k + 1, ⟨⟨⟩, ⟨a1, ⟨⟩⟩⟩, ⟨⟨⟨⟨⟩, ⟨⟩⟩, ⟨⟨⟩, ⟨⟨⟩, ⟨⟩⟩⟩⟩, ⟨⟨⟨⟩, ⟨⟩⟩, ⟨⟨a2, ⟨⟨⟩, ⟨⟨⟩, ⟨⟨⟩, ⟨⟨⟩, ⟨a3, ⟨a4, ⟨a5, ⟨⟩⟩⟩⟩⟩⟩⟩⟩⟩, ⟨⟨⟩, ⟨⟨⟩, ⟨⟨⟨⟨⟩, ⟨⟩⟩, ⟨⟨⟩, ⟨⟨⟩, ⟨⟩⟩⟩⟩, ⟨⟨⟩, ⟨⟨⟩, ⟨⟨⟩, ⟨⟨⟩, ⟨a6, ⟨a7, ⟨a8, ⟨a9, ⟨a10, ⟨a11, ⟨⟩⟩⟩⟩⟩⟩⟩⟩⟩⟩⟩⟩⟩⟩⟩⟩⟩ => by
    rw [L27b_0, L27b_0]
    repeat' (first | exact mF41b _ _ _ | refine le_ite ?_ ?_ | refine le_bind ?_ (fun _ => ?_) | exact mL27b_0 K k _ _ | exact le_rfl' _)
theorem mF27b (k : Nat) : ∀ x y, Le (F27b k x y) (F27b (k + 1) x y) := by
  rintro ⟨⟨⟩, ⟨a1, ⟨⟩⟩⟩ ⟨⟨⟨⟨⟩, ⟨⟩⟩, ⟨⟨⟩, ⟨⟨⟩, ⟨⟩⟩⟩⟩, ⟨⟨⟨⟩, ⟨⟩⟩, ⟨⟨a2, ⟨⟨⟩, ⟨⟨⟩, ⟨⟨⟩, ⟨⟨⟩, ⟨a3, ⟨a4, ⟨a5, ⟨⟩⟩⟩⟩⟩⟩⟩⟩⟩, ⟨a6, ⟨a7, ⟨⟨⟨⟨⟩, ⟨⟩⟩, ⟨⟨⟩, ⟨⟨⟩, ⟨⟩⟩⟩⟩, ⟨a8, ⟨a9, ⟨a10, ⟨a11, ⟨⟩⟩⟩⟩⟩⟩⟩⟩⟩⟩⟩
  rw [F27b, F27b]
  repeat' (first | exact mF41b _ _ _ | exact mL27b_0 _ _ _ _ | refine le_ite ?_ ?_ | refine le_bind ?_ (fun _ => ?_) | exact le_rfl' _)
theorem mL41w_0 : ∀ (k : Nat) x y, Le (L41w_0 k x y) (L41w_0 (k + 1) x y)
  | 0, _, _ => le_none _
  | k + 1, ⟨⟨⟩, ⟨a1, ⟨⟩⟩⟩, ⟨⟨⟨⟨⟩, ⟨⟩⟩, ⟨⟨⟩, ⟨⟨⟩, ⟨⟩⟩⟩⟩, ⟨⟨⟨⟩, ⟨⟩⟩, ⟨⟨a2, ⟨⟨⟩, ⟨⟨⟩, ⟨⟨⟩, ⟨⟨⟩, ⟨a3, ⟨a4, ⟨a5, ⟨⟩⟩⟩⟩⟩⟩⟩⟩⟩, ⟨a6, ⟨a7, ⟨⟨⟨⟨⟩, ⟨⟩⟩, ⟨⟨⟩, ⟨⟨⟩, ⟨⟩⟩⟩⟩, ⟨a8, ⟨a9, ⟨a10, ⟨a11, ⟨⟩⟩⟩⟩⟩⟩⟩⟩⟩⟩⟩ => by
    rw [L41w_0, L41w_0]
    repeat' (first | refine le_ite ?_ ?_ | refine le_bind ?_ (fun _ => ?_) | exact mL41w_0 k _ _ | exact le_rfl' _)
theorem mF41w (k : Nat) : ∀ x y, Le (F41w k x y) (F41w (k + 1) x y) := by
  rintro ⟨⟨⟩, ⟨a1, ⟨⟩⟩⟩ ⟨⟨⟨⟨⟩, ⟨⟩⟩, ⟨⟨⟩, ⟨⟨⟩, ⟨⟩⟩⟩⟩, ⟨⟨⟨⟩, ⟨⟩⟩, ⟨⟨a2, ⟨⟨⟩, ⟨⟨⟩, ⟨⟨⟩, ⟨⟨⟩, ⟨a3, ⟨a4, ⟨a5, ⟨⟩⟩⟩⟩⟩⟩⟩⟩⟩, ⟨a6, ⟨a7, ⟨⟨⟨⟨⟩, ⟨⟩⟩, ⟨⟨⟩, ⟨⟨⟩, ⟨⟩⟩⟩⟩, ⟨a8, ⟨a9, ⟨a10, ⟨a11, ⟨⟩⟩⟩⟩⟩⟩⟩⟩⟩⟩⟩
  rw [F41w, F41w]
  repeat' (first | exact mL41w_0 _ _ _ | refine le_ite ?_ ?_ | refine le_bind ?_ (fun _ => ?_) | exact le_rfl' _)
theorem mL46w_0 : ∀ (k : Nat) x y, Le (L46w_0 k x y) (L46w_0 (k + 1) x y)
  | 0, _, _ => le_none _
  | k + 1, ⟨⟨⟩, ⟨a1, ⟨⟩⟩⟩, ⟨⟨⟨⟨⟩, ⟨⟩⟩, ⟨⟨⟩, ⟨⟨⟩, ⟨⟩⟩⟩⟩, ⟨⟨⟨⟩, ⟨⟩⟩, ⟨⟨a2, ⟨⟨⟩, ⟨⟨⟩, ⟨⟨⟩, ⟨⟨⟩, ⟨a3, ⟨a4, ⟨a5, ⟨⟩⟩⟩⟩⟩⟩⟩⟩⟩, ⟨a6, ⟨a7, ⟨⟨⟨⟨⟩, ⟨⟩⟩, ⟨⟨⟩, ⟨⟨⟩, ⟨⟩⟩⟩⟩, ⟨a8, ⟨a9, ⟨a10, ⟨a11, ⟨⟩⟩⟩⟩⟩⟩⟩⟩⟩⟩⟩ => by
    rw [L46w_0, L46w_0]
    repeat' (first | refine le_ite ?_ ?_ | refine le_bind ?_ (fun _ => ?_) | exact mL46w_0 k _ _ | exact le_rfl' _)
theorem mF46w (k : Nat) : ∀ x y, Le (F46w k x y) (F46w (k + 1) x y) := by
  rintro ⟨⟨⟩, ⟨a1, ⟨⟩⟩⟩ ⟨⟨⟨⟨⟩, ⟨⟩⟩, ⟨⟨⟩, ⟨⟨⟩, ⟨⟩⟩⟩⟩, ⟨⟨⟨⟩, ⟨⟩⟩, ⟨⟨a2, ⟨⟨⟩, ⟨⟨⟩, ⟨⟨⟩, ⟨⟨⟩, ⟨a3, ⟨a4, ⟨a5, ⟨⟩⟩⟩⟩⟩⟩⟩⟩⟩, ⟨a6, ⟨a7, ⟨⟨⟨⟨⟩, ⟨⟩⟩, ⟨⟨⟩, ⟨⟨⟩, ⟨⟩⟩⟩⟩, ⟨a8, ⟨a9, ⟨a10, ⟨a11, ⟨⟩⟩⟩⟩⟩⟩⟩⟩⟩⟩⟩
  rw [F46w, F46w]
  repeat' (first | exact mL46w_0 _ _ _ | refine le_ite ?_ ?_ | refine le_bind ?_ (fun _ => ?_) | exact le_rfl' _)
theorem mF42w (k : Nat) : ∀ x y, Le (F42w k x y) (F42w (k + 1) x y) := by
  rintro ⟨⟨⟩, ⟨a1, ⟨⟩⟩⟩ ⟨⟨⟨⟨⟩, ⟨⟩⟩, ⟨⟨⟩, ⟨⟨⟩, ⟨⟩⟩⟩⟩, ⟨⟨⟨⟩, ⟨⟩⟩, ⟨⟨a2, ⟨⟨⟩, ⟨⟨⟩, ⟨⟨⟩, ⟨⟨⟩, ⟨a3, ⟨a4, ⟨a5, ⟨⟩⟩⟩⟩⟩⟩⟩⟩⟩, ⟨a6, ⟨a7, ⟨⟨⟨⟨⟩, ⟨⟩⟩, ⟨⟨⟩, ⟨⟨⟩, ⟨⟩⟩⟩⟩, ⟨a8, ⟨a9, ⟨a10, ⟨a11, ⟨⟩⟩⟩⟩⟩⟩⟩⟩⟩⟩⟩
  rw [F42w, F42w]
  repeat' (first | exact mF41w _ _ _ | exact mF46w _ _ _ | refine le_ite ?_ ?_ | refine le_bind ?_ (fun _ => ?_) | exact le_rfl' _)
theorem mL27w_0 (K : Nat) : ∀ (k : Nat) x y, Le (L27w_0 K k x y) (L27w_0 (K + 1) (k + 1) x y)
  | 0, _, _ => le_none _
  | k + 1, ⟨⟨⟩, ⟨a1, ⟨⟩⟩⟩, ⟨⟨⟨⟨⟩, ⟨⟩⟩, ⟨⟨⟩, ⟨⟨⟩, ⟨⟩⟩⟩⟩, ⟨⟨⟨⟩, ⟨⟩⟩, ⟨⟨a2, ⟨⟨⟩, ⟨⟨⟩, ⟨⟨⟩, ⟨⟨⟩, ⟨a3, ⟨a4, ⟨a5, ⟨⟩⟩⟩⟩⟩⟩⟩⟩⟩, ⟨⟨⟩, ⟨⟨⟩, ⟨⟨⟨⟨⟩, ⟨⟩⟩, ⟨⟨⟩, ⟨⟨⟩, ⟨⟩⟩⟩⟩, ⟨⟨⟩, ⟨⟨⟩, ⟨⟨⟩, ⟨⟨⟩, ⟨a6, ⟨a7, ⟨a8, ⟨a9, ⟨a10, ⟨a11, ⟨⟩⟩⟩⟩⟩⟩⟩⟩⟩⟩⟩⟩⟩⟩⟩⟩⟩ => by
    rw [L27w_0, L27w_0]
    repeat' (first | exact mF41w _ _ _ | refine le_ite ?_ ?_ | refine le_bind ?_ (fun _ => ?_) | exact mL27w_0 K k _ _ | exact le_rfl' _)
theorem mF27w (k : Nat) : ∀ x y, Le (F27w k x y) (F27w (k + 1) x y) := by
  rintro ⟨⟨⟩, ⟨a1, ⟨⟩⟩⟩ ⟨⟨⟨⟨⟩, ⟨⟩⟩, ⟨⟨⟩, ⟨⟨⟩, ⟨⟩⟩⟩⟩, ⟨⟨⟨⟩, ⟨⟩⟩, ⟨⟨a2, ⟨⟨⟩, ⟨⟨⟩, ⟨⟨⟩, ⟨⟨⟩, ⟨a3, ⟨a4, ⟨a5, ⟨⟩⟩⟩⟩⟩⟩⟩⟩⟩, ⟨a6, ⟨a7, ⟨⟨⟨⟨⟩, ⟨⟩⟩, ⟨⟨⟩, ⟨⟨⟩, ⟨⟩⟩⟩⟩, ⟨a8, ⟨a9, ⟨a10, ⟨a11, ⟨⟩⟩⟩⟩⟩⟩⟩⟩⟩⟩⟩
  rw [F27w, F27w]
  repeat' (first | exact mF41w _ _ _ | exact mL27w_0 _ _ _ _ | refine le_ite ?_ ?_ | refine le_bind ?_ (fun _ => ?_) | exact le_rfl' _)
theorem mF28 (k : Nat) : ∀ x y, Le (F28 k x y) (F28 (k + 1) x y) := by
  rintro ⟨⟨⟩, ⟨a1, ⟨⟩⟩⟩ ⟨⟨a2, ⟨⟨⟩, ⟨⟨⟩, ⟨⟨⟩, ⟨⟨⟩, ⟨a3, ⟨a4, ⟨a5, ⟨⟩⟩⟩⟩⟩⟩⟩⟩⟩, ⟨a6, ⟨a7, ⟨⟨⟨⟨⟩, ⟨⟩⟩, ⟨⟨⟩, ⟨⟨⟩, ⟨⟩⟩⟩⟩, ⟨⟨⟨⟩, ⟨⟩⟩, ⟨a8, ⟨a9, ⟨⟨⟨⟨⟩, ⟨⟩⟩, ⟨⟨⟩, ⟨⟨⟩, ⟨⟩⟩⟩⟩, ⟨a10, ⟨a11, ⟨⟩⟩⟩⟩⟩⟩⟩⟩⟩⟩⟩
  rw [F28, F28]
  repeat' (first | exact mF42b _ _ _ | exact mF42w _ _ _ | refine le_ite ?_ ?_ | refine le_bind ?_ (fun _ => ?_) | exact le_rfl' _)
theorem mF12 (k : Nat) : ∀ x y, Le (F12 k x y) (F12 (k + 1) x y) := by
  rintro ⟨⟨⟩, ⟨⟨a1, ⟨a2, ⟨a3, ⟨⟩⟩⟩⟩, ⟨⟩⟩⟩ ⟨⟨a4, ⟨⟨⟩, ⟨⟨⟩, ⟨⟨⟩, ⟨⟨⟩, ⟨a5, ⟨a6, ⟨a7, ⟨⟩⟩⟩⟩⟩⟩⟩⟩⟩, ⟨a8, ⟨a9, ⟨⟨⟨⟨⟩, ⟨⟩⟩, ⟨⟨⟩, ⟨⟨⟩, ⟨⟩⟩⟩⟩, ⟨⟨⟨⟩, ⟨⟩⟩, ⟨a10, ⟨a11, ⟨⟨⟨⟨⟩, ⟨⟩⟩, ⟨⟨⟩, ⟨⟨⟩, ⟨⟩⟩⟩⟩, ⟨a12, ⟨a13, ⟨⟩⟩⟩⟩⟩⟩⟩⟩⟩⟩⟩
  rw [F12, F12]
  repeat' (first | exact mF27b _ _ _ | exact mF27w _ _ _ | exact mF28 _ _ _ | refine le_ite ?_ ?_ | refine le_bind ?_ (fun _ => ?_) | exact le_rfl' _)
theorem mF13 (k : Nat) : ∀ x y, Le (F13 k x y) (F13 (k + 1) x y) := by
  rintro ⟨⟨⟩, ⟨⟩⟩ ⟨⟨a1, ⟨⟨⟩, ⟨⟨⟩, ⟨⟨⟩, ⟨⟨⟩, ⟨a2, ⟨a3, ⟨a4, ⟨⟩⟩⟩⟩⟩⟩⟩⟩⟩, ⟨a5, ⟨a6, ⟨⟨⟨⟨⟩, ⟨⟩⟩, ⟨⟨⟩, ⟨⟨⟩, ⟨⟩⟩⟩⟩, ⟨⟨⟨⟩, ⟨⟩⟩, ⟨a7, ⟨a8, ⟨⟨⟨⟨⟩, ⟨⟩⟩, ⟨⟨⟩, ⟨⟨⟩, ⟨⟩⟩⟩⟩, ⟨a9, ⟨a10, ⟨⟩⟩⟩⟩⟩⟩⟩⟩⟩⟩⟩
  rw [F13, F13]
  repeat' (first | exact mF28 _ _ _ | refine le_ite ?_ ?_ | refine le_bind ?_ (fun _ => ?_) | exact le_rfl' _)
end Go.Eng.He

set_option linter.unusedVariables false
namespace Go.Eng.He
open Go Go.Eng Go.Proofs
theorem wut {t : Int} (h0 : 0 ≤ t) (h : t < 4611686018427387904) : IntKind.wrap IntKind.u64 (t + 1) = t + 1 := by rw [wrapU]; omega
theorem gt_btr {z e : Ent} {x : Itm} (hx : itmE e = x) (h : gt2 (itmE z) x) : btr z e = true := by
  subst hx
  unfold gt2 at h
  unfold btr
  rcases h with h | ⟨h, h2⟩
  · have h : e.1 < z.1 := h
    rw [if_neg (by omega), decide_eq_true_eq]; exact h
  · have h : z.1 = e.1 := h
    have h2 : e.2.1 < z.2.1 := h2
    rw [if_pos h, if_neg (by omega), decide_eq_true_eq]; exact h2
theorem ngt_btr {z e : Ent} {x : Itm} (hx : itmE e = x) (h : ¬ gt2 (itmE z) x) (ht : z.2.2.2 < e.2.2.2) : btr z e = false := by
  subst hx
  unfold gt2 at h
  unfold btr
  by_cases h1 : z.1 = e.1
  · rw [if_pos h1]
    by_cases h2 : z.2.1 = e.2.1
    · rw [if_pos h2, decide_eq_false_iff_not]; omega
    · rw [if_neg h2, decide_eq_false_iff_not]; exact fun h3 => h (.inr ⟨h1, h3⟩)
  · rw [if_neg h1, decide_eq_false_iff_not]; exact fun h3 => h (.inl h3)
theorem getD_map {l : List Ent} {i : Nat} (h : i < l.length) : (l.map itmE).getD i itm0 = itmE (eg l i) := by
  simp [List.getD_eq_getElem?_getD, h]
theorem put_srd {E : List Ent} {e : Ent} {x : Itm} {n : Nat} (hx : itmE e = x) (hE : Srd E) (hn : n ≤ E.length) (ht : ∀ y ∈ E, y.2.2.2 < e.2.2.2) (h1 : ∀ j, j < n → gt2 ((E.map itmE).getD j itm0) x) (h2 : n < E.length → ¬ gt2 ((E.map itmE).getD n itm0) x) :
    Srd (E.take n ++ e :: E.drop n) := by
  have hs := hE
  rw [← List.take_append_drop n E] at hs
  obtain ⟨s1, s2, s3⟩ := List.pairwise_append.1 hs
  refine List.pairwise_append.2 ⟨s1, List.pairwise_cons.2 ⟨fun y hy => ?_, s2⟩, fun a ha y hy => ?_⟩
  · have hyE : y ∈ E := List.mem_of_mem_drop hy
    obtain ⟨i, hi, rfl⟩ := List.getElem_of_mem hy
    rw [List.length_drop] at hi
    have hlt : n < E.length := by omega
    have w1 : W e (eg E n) := by
      have := h2 hlt
      rw [getD_map hlt] at this
      exact ngt_btr hx this (by rw [eg_get hlt]; exact ht _ (List.getElem_mem hlt))
    have w2 : W (eg E n) (E.drop n)[i] := by
      by_cases h0 : i = 0
      · subst h0; rw [eg_get hlt]; simp only [List.getElem_drop, Nat.add_zero]; exact W.rfl' _
      · rw [eg_get hlt]; simp only [List.getElem_drop]
        exact W.of (List.pairwise_iff_getElem.1 hE n (n + i) hlt (by omega) (by omega))
    exact (w1.trans w2).strict (by have := ht _ hyE; omega)
  · rcases List.mem_cons.1 hy with h | h
    · subst h
      obtain ⟨i, hi, rfl⟩ := List.getElem_of_mem ha
      rw [List.length_take] at hi
      have := h1 i (by omega)
      rw [getD_map (by omega), eg_get (by omega)] at this
      rw [List.getElem_take]
      exact gt_btr hx this
    · exact s3 a ha y h
theorem put_map {E : List Ent} {e : Ent} {x : Itm} (hx : itmE e = x) (n : Nat) : (E.take n ++ e :: E.drop n).map itmE = at32 (E.map itmE) n x := by
  subst hx
  unfold at32
  rw [List.map_append, List.map_cons, List.map_take, List.map_drop]
theorem put_rel {s : HS} {r : RS} (h : Rl s r) (ht : s.t < 4611686018427387904) (x1 x2 x3 : Int) : ∃ (s' : HS) (r' : RS) (y : Itm) (gn : Bool),
    Evt (fun K => F12 K ((), (x1, x2, x3, ()), ()) s.O) (((y.1, y.2.1, y.2.2, ()), gn, 0, ()), s'.M) ∧ Evt (fun k => F32 k ((), (x1, x2, x3, ()), ()) r.O) (((y.1, y.2.1, y.2.2, ()), gn, 0, ()), r'.M) ∧ Rl s' r' ∧ s'.t = s.t + 1 ∧ s'.m = s.m := by
  have hlen := h.len
  obtain ⟨hI, hle, hm, hg, hb, hd, t0, tl, E, hE, hp, hL⟩ := h
  have mhi := hI.mhi; have cap := hI.cap; have cnt := hI.cnt
  have htu := wut t0 ht
  obtain ⟨s', hor, hI', m', t'⟩ := put_ok (K := 200001) hI hle x1 x2 x3 (by decide)
  rw [htu] at t'
  obtain ⟨e, he⟩ : ∃ e, e = newE s x1 x2 x3 := ⟨_, rfl⟩
  have eT : e.2.2.2 = s.t + 1 := by rw [he]; exact htu
  have eX : itmE e = (x1, x2, x3) := by rw [he]; rfl
  rw [← he] at hor
  have tlt : ∀ y ∈ live s, y.2.2.2 < e.2.2.2 := fun y hy => by have := tl y hy; omega
  have hd2 : Dis (e :: live s) := List.nodup_cons.2 ⟨fun hm => by
    obtain ⟨y, hy, ey⟩ := List.mem_map.1 hm
    have := tlt y hy
    have ey : y.2.2.2 = e.2.2.2 := ey
    omega, hd⟩
  have tl2 : ∀ y ∈ e :: live s, 0 ≤ y.2.2.2 ∧ y.2.2.2 ≤ s.t + 1 := fun y hy => by
    rcases List.mem_cons.1 hy with hy | hy
    · rw [hy, eT]; omega
    · have := tl y hy; omega
  have hEl : E.length = s.bl.length := by rw [hp.length_eq, live_len]
  obtain ⟨n, hn, g1, g2, K2, g3⟩ := rput_ok (r := r) (x := (x1, x2, x3)) (by omega) r.L.length 0 (by omega) (fun j hj => absurd hj (by omega))
  rw [hL] at g1 g2
  rw [List.length_map] at g2
  have hnE : n ≤ E.length := by omega
  have hS := put_srd (n := n) eX hE hnE (fun y hy => tlt y (hp.mem_iff.1 hy)) g1 g2
  have hM := put_map (E := E) eX n
  have hPE : (E.take n ++ e :: E.drop n).Perm (e :: E) := by
    have := List.perm_middle (a := e) (l₁ := E.take n) (l₂ := E.drop n)
    rwa [List.take_append_drop] at this
  have hP2 : (E.take n ++ e :: E.drop n).Perm (e :: live s) := hPE.trans (hp.cons _)
  have hQl : (at32 r.L n (x1, x2, x3)).length = s.bl.length + 1 := by
    rw [hL, ← hM, List.length_map, hPE.length_eq, List.length_cons, hEl]
  have hR : ∀ k, K2 ≤ k → F32 k ((), (x1, x2, x3, ()), ()) r.O = some (putR r (x1, x2, x3) (at32 r.L n (x1, x2, x3))) := fun k hk => by rw [F32]; exact g3 k hk
  rcases hor with ⟨hlt, e1, p1, k', d'⟩ | ⟨heq, d, e1, p1, hmin, d', k'⟩
  · refine ⟨s', ⟨r.m, at32 r.L n (x1, x2, x3), r.g, r.b⟩, (0, 0, 0), false, ⟨200001, fun K hK => le_up (f := fun K => F12 K ((), (x1, x2, x3, ()), ()) s.O) (fun K => mF12 K _ _) hK e1⟩, ⟨K2, fun k hk => (hR k hk).trans ?_⟩, ?_, t', m'⟩
    · unfold putR; rw [if_pos (by omega)]
    · have hl' : s'.bl.length = s.bl.length + 1 := by rw [← live_len, p1.length_eq, List.length_cons, live_len]
      exact ⟨hI', by omega, by rw [m']; exact hm, by rw [k']; exact hg, by rw [d']; exact hb, hd2.perm p1, by omega, fun y hy => by rw [t']; exact tl2 y (p1.mem_iff.1 hy), _, hS, hP2.trans p1.symm, by rw [hM, hL]⟩
  · have hl' : s'.bl.length = s.bl.length := by
      have := p1.length_eq
      rw [List.length_cons, List.length_cons, live_len, live_len] at this; omega
    obtain ⟨X, z, hXz⟩ : ∃ X z, E.take n ++ e :: E.drop n = X ++ [z] := by
      rcases List.eq_nil_or_concat (E.take n ++ e :: E.drop n) with h | ⟨X, z, h⟩
      · exact absurd (congrArg List.length h) (by rw [hPE.length_eq]; simp)
      · exact ⟨X, z, by rw [h]; simp⟩
    rw [hXz] at hS hM hP2
    have hP3 := hP2.trans p1.symm
    obtain rfl : d = z := last_of hS (hP3.mem_iff.2 (List.mem_cons_self ..)) fun y hy => by
      rcases List.mem_cons.1 (hP3.mem_iff.1 hy) with hy | hy
      · rw [hy]; exact btr_self _
      · exact hmin y hy
    have hX : X.Perm (live s') := List.Perm.cons_inv ((List.perm_append_singleton d X).symm.trans hP3)
    have hXl : X.length = s.bl.length := by rw [hX.length_eq, live_len, hl']
    have hQ : at32 r.L n (x1, x2, x3) = X.map itmE ++ [itmE d] := by rw [hL, ← hM, List.map_append]; rfl
    have hQd : (at32 r.L n (x1, x2, x3)).getD ((at32 r.L n (x1, x2, x3)).length - 1) itm0 = itmE d := by
      rw [hQl, Nat.add_sub_cancel, hQ]
      have : s.bl.length = (X.map itmE).length := by rw [List.length_map, hXl]
      rw [this]; simp [List.getD_eq_getElem?_getD]
    have hQt : (at32 r.L n (x1, x2, x3)).take ((at32 r.L n (x1, x2, x3)).length - 1) = X.map itmE := by
      rw [hQl, Nat.add_sub_cancel, hQ]
      have : s.bl.length = (X.map itmE).length := by rw [List.length_map, hXl]
      rw [this]; simp
    refine ⟨s', ⟨r.m, X.map itmE, s'.k, true⟩, itmE d, true, ⟨200001, fun K hK => le_up (f := fun K => F12 K ((), (x1, x2, x3, ()), ()) s.O) (fun K => mF12 K _ _) hK e1⟩, ⟨K2, fun k hk => (hR k hk).trans ?_⟩, ?_, t', m'⟩
    · unfold putR; rw [if_neg (by omega), hQd, hQt, hb, hg, k']
    · exact ⟨hI', by omega, by rw [m']; exact hm, rfl, d'.symm, (hd2.perm p1).le (List.sublist_cons_self ..), by omega, fun y hy => by rw [t']; exact tl2 y (p1.mem_iff.1 (List.mem_cons_of_mem _ hy)), X, (List.pairwise_append.1 hS).1, hX, rfl⟩
theorem pop_rel {s : HS} {r : RS} (h : Rl s r) : ∃ (s' : HS) (r' : RS) (y : Itm) (ok : Bool),
    Evt (fun K => F13 K ((), ()) s.O) (((y.1, y.2.1, y.2.2, ()), ok, ()), s'.M) ∧ F34 ((), ()) r.O = some (((y.1, y.2.1, y.2.2, ()), ok, ()), r'.M) ∧ Rl s' r' ∧ s'.t = s.t ∧ s'.m = s.m := by
  have hlen := h.len
  have h' := h
  obtain ⟨hI, hle, hm, hg, hb, hd, t0, tl, E, hE, hp, hL⟩ := h
  have mhi := hI.mhi; have cap := hI.cap; have cnt := hI.cnt
  have up : ∀ v, F13 200001 ((), ()) s.O = some v → Evt (fun K => F13 K ((), ()) s.O) v := fun v e => ⟨200001, fun K hK => le_up (f := fun K => F13 K ((), ()) s.O) (fun K => mF13 K _ _) hK e⟩
  rcases pop_ok (K := 200001) hI (by omega) with ⟨h0, e⟩ | ⟨s', d, e, hI', p, hmax, m', t', k', d'⟩
  · exact ⟨s, r, (0, 0, 0), false, up _ e, rpop_nil (List.eq_nil_of_length_eq_zero (by rw [hlen, h0]; rfl)), h', rfl, rfl⟩
  · obtain ⟨E', rfl⟩ := first_of hE (hp.mem_iff.2 (p.mem_iff.2 (List.mem_cons_self ..))) fun y hy => hmax y (hp.mem_iff.1 hy)
    rw [List.map_cons] at hL
    have hl' : s.bl.length = s'.bl.length + 1 := by rw [← live_len, p.length_eq, List.length_cons, live_len]
    have hEl : E'.length + 1 = s.bl.length := by rw [← live_len s, ← hp.length_eq]; rfl
    refine ⟨s', ⟨r.m, E'.map itmE, r.g, r.b⟩, itmE d, true, up _ e, rpop_cons hL (by rw [List.length_map]; omega), ?_, t', m'⟩
    exact ⟨hI', by omega, by rw [m']; exact hm, by rw [k']; exact hg, by rw [d']; exact hb, (hd.perm p.symm).le (List.sublist_cons_self ..), by omega, fun y hy => by rw [t']; exact tl y (p.mem_iff.2 (List.mem_cons_of_mem _ hy)), E', (List.pairwise_cons.1 hE).2, List.Perm.cons_inv (hp.trans p), rfl⟩
theorem top_rel {s : HS} {r : RS} (h : Rl s r) : ∃ (y : Itm) (ok : Bool), F25 ((), ()) s.O = some (((y.1, y.2.1, y.2.2, ()), ok, ()), s.O) ∧ F35 ((), ()) r.O = some (((y.1, y.2.1, y.2.2, ()), ok, ()), r.O) := by
  have hlen := h.len
  obtain ⟨hI, hle, hm, hg, hb, hd, t0, tl, E, hE, hp, hL⟩ := h
  rcases Nat.eq_zero_or_pos s.bl.length with h0 | h0
  · refine ⟨(0, 0, 0), false, ?_, rtop_nil (List.eq_nil_of_length_eq_zero (by rw [hlen, h0]))⟩
    rw [F25]
    refine bind_of (len_ok s) ?_
    exact if_pos (show decide ((s.bl.length : Int) = 0) = true by rw [decide_eq_true_eq]; omega)
  · obtain ⟨d, hdm, e, hmax⟩ := top_ok hI h0
    obtain ⟨E', rfl⟩ := first_of hE (hp.mem_iff.2 hdm) fun y hy => hmax y (hp.mem_iff.1 hy)
    exact ⟨itmE d, true, e, rtop_cons hL⟩
theorem worst_rel {s : HS} {r : RS} (h : Rl s r) : ∃ (y : Itm) (ok : Bool), F15 ((), ()) s.O = some (((y.1, y.2.1, y.2.2, ()), ok, ()), s.O) ∧ F36 ((), ()) r.O = some (((y.1, y.2.1, y.2.2, ()), ok, ()), r.O) := by
  have hlen := h.len
  obtain ⟨hI, hle, hm, hg, hb, hd, t0, tl, E, hE, hp, hL⟩ := h
  have mhi := hI.mhi; have cap := hI.cap; have cnt := hI.cnt
  rcases Nat.eq_zero_or_pos s.bl.length with h0 | h0
  · refine ⟨(0, 0, 0), false, ?_, rworst_nil (List.eq_nil_of_length_eq_zero (by rw [hlen, h0]))⟩
    rw [F15]
    refine bind_of (len_ok s) ?_
    exact if_pos (show decide ((s.bl.length : Int) = 0) = true by rw [decide_eq_true_eq]; omega)
  · have h1 : 0 < s.wl.length := by rw [hI.pw.length_eq]; exact h0
    have hm : gi s.wl 0 ∈ s.bl := hI.pw.mem_iff.1 (gi_mem h1)
    have hb := hI.bd _ (List.mem_append_left _ hm)
    have hdm : en s.all (gi s.wl 0) ∈ live s := List.mem_map.2 ⟨_, hm, rfl⟩
    have e : F15 ((), ()) s.O = some ((((en s.all (gi s.wl 0)).1, (en s.all (gi s.wl 0)).2.1, (en s.all (gi s.wl 0)).2.2.1, ()), true, ()), s.O) := by
      rw [F15]
      refine bind_of (len_ok s) ?_
      refine (if_neg (by rw [decide_eq_true_eq]; intro h; exact absurd (show (s.bl.length : Int) = 0 from h) (by omega))).trans ((if_pos (inN h1)).trans ((if_pos h1).trans ((if_pos (inR hb)).trans ((if_pos hb.2).trans ?_))))
      rfl
    have hmin : ∀ y ∈ live s, btr (en s.all (gi s.wl 0)) y = false := fun y hy => by
      obtain ⟨x, hx, rfl⟩ := List.mem_map.1 hy
      exact root_w hI h0 hx
    obtain ⟨X, z, hXz⟩ : ∃ X z, E = X ++ [z] := by
      rcases List.eq_nil_or_concat E with h | ⟨X, z, h⟩
      · exact absurd (congrArg List.length h) (by rw [hp.length_eq, live_len]; show ¬ s.bl.length = 0; omega)
      · exact ⟨X, z, by rw [h]; simp⟩
    subst hXz
    have : en s.all (gi s.wl 0) = z := last_of hE (hp.mem_iff.2 hdm) fun y hy => hmin y (hp.mem_iff.1 hy)
    rw [this] at e
    have hXl : X.length < 1000000000 := by
      have := hp.length_eq
      rw [live_len, List.length_append] at this; omega
    exact ⟨itmE z, true, e, rworst_app (by rw [hL, List.map_append]; rfl) (by rw [List.length_map]; exact hXl)⟩
abbrev AOt (s : HS) (r : RS) : OPL.T os21 := ((s.m, (), (), (), (), s.t, s.k, s.md, ()), s.all, s.fr, (((), ()), (), (), ()), ((), ()), s.bl, s.ba, (((), ()), (), (), ()), s.wl, s.wa, (r.m, (), r.g, r.b, ()), r.L, ())
abbrev AMo : List OP := match alts21 with
  | (_, o) :: _ => o
  | [] => []
abbrev AMt (s : HS) (r : RS) : OPL.T AMo := ((s.m, (), (), (), (), s.t, s.k, s.md, ()), (), (), (((), ()), (), (), ()), ((), ()), (), (), (((), ()), (), (), ()), (), (), (r.m, (), r.g, r.b, ()), (), s.all, s.fr, s.bl, s.ba, s.wl, s.wa, r.L, ())
theorem f33_eq (y : Itm) : F33 ((y.1, y.2.1, y.2.2, ()), (y.1, y.2.1, y.2.2, ()), ()) () = some (true, ()) := by
  rw [F33]
  exact (if_pos (decide_eq_true rfl)).trans ((if_pos (decide_eq_true rfl)).trans (by rw [decide_eq_true rfl]))
theorem asks_ok {s : HS} {r : RS} (h : Rl s r) (ht : s.t < 4611686018427387904) (a1 a2 a3 a4 a5 : Int) : ∃ (s' : HS) (r' : RS), Rl s' r' ∧ s'.t ≤ s.t + 1 ∧ s'.m = s.m ∧
    Evt (fun k => F21 k ((), (), (a1, a2, a3, a4, a5, ()), ()) (AOt s r)) (true, AMt s' r') := by
  by_cases h1 : a1 = 1
  · obtain ⟨s', r', y, gn, ⟨K1, e1⟩, ⟨K2, e2⟩, hR, t', m'⟩ := put_rel h ht a2 a3 a4
    refine ⟨s', r', hR, by omega, m', K1 + K2, fun k hk => ?_⟩
    show F21 _ _ _ = _
    rw [F21]
    refine (if_pos (decide_eq_true h1)).trans ?_
    refine bind_of (e1 k (by omega)) (bind_of (e2 k (by omega)) (bind_of (f33_eq y) ((if_pos rfl).trans ((if_pos (by cases gn <;> rfl)).trans ?_))))
    exact bind_of rfl rfl
  have n1 : ¬ decide (a1 = (1 : Int)) = true := by rw [decide_eq_true_eq]; exact h1
  by_cases h2 : a1 = 2
  · obtain ⟨s', r', y, ok, ⟨K1, e1⟩, e2, hR, t', m'⟩ := pop_rel h
    refine ⟨s', r', hR, by omega, m', K1, fun k hk => ?_⟩
    show F21 _ _ _ = _
    rw [F21]
    refine (if_neg n1).trans ((if_pos (decide_eq_true h2)).trans ?_)
    refine bind_of (e1 k (by omega)) (bind_of e2 (bind_of (f33_eq y) ((if_pos rfl).trans ?_)))
    cases ok <;> rfl
  have n2 : ¬ decide (a1 = (2 : Int)) = true := by rw [decide_eq_true_eq]; exact h2
  refine ⟨s, r, h, by omega, rfl, ?_⟩
  by_cases h3 : a1 = 3
  · obtain ⟨y, ok, e1, e2⟩ := top_rel h
    refine ⟨0, fun k hk => ?_⟩
    show F21 _ _ _ = _
    rw [F21]
    refine (if_neg n1).trans ((if_neg n2).trans ((if_pos (decide_eq_true h3)).trans ?_))
    refine bind_of e1 (bind_of e2 (bind_of (f33_eq y) ((if_pos rfl).trans ?_)))
    cases ok <;> rfl
  have n3 : ¬ decide (a1 = (3 : Int)) = true := by rw [decide_eq_true_eq]; exact h3
  by_cases h4 : a1 = 4
  · obtain ⟨y, ok, e1, e2⟩ := worst_rel h
    refine ⟨0, fun k hk => ?_⟩
    show F21 _ _ _ = _
    rw [F21]
    refine (if_neg n1).trans ((if_neg n2).trans ((if_neg n3).trans ((if_pos (decide_eq_true h4)).trans ?_)))
    refine bind_of e1 (bind_of e2 (bind_of (f33_eq y) ((if_pos rfl).trans ?_)))
    cases ok <;> rfl
  have n4 : ¬ decide (a1 = (4 : Int)) = true := by rw [decide_eq_true_eq]; exact h4
  have hlen := h.len
  have cap := h.inv.cap; have mhi := h.inv.mhi; have cnt := h.inv.cnt
  by_cases h5 : a1 = 5
  · obtain ⟨E, hE, hp, hL⟩ := h.E
    have hEl : E.length = s.bl.length := by rw [hp.length_eq, live_len]
    obtain ⟨K1, e1⟩ := all_told h.inv hE hp h.dis a5
    obtain ⟨K2, e2⟩ := same_ok (E := E) (by omega) a5
    have e3 := rall_ok (r := r) (by omega)
    refine ⟨K1 + K2, fun k hk => ?_⟩
    show F21 _ _ _ = _
    rw [F21]
    refine (if_neg n1).trans ((if_neg n2).trans ((if_neg n3).trans ((if_neg n4).trans ((if_pos (decide_eq_true h5)).trans ?_))))
    refine bind_of (e1 k (by omega)) ?_
    refine (if_pos rfl).trans ((if_pos rfl).trans ((if_pos rfl).trans ?_))
    refine bind_of e3 ?_
    refine (if_pos rfl).trans ((if_pos rfl).trans ((if_pos rfl).trans ?_))
    have e2' := e2 k (by omega)
    rw [← hL] at e2'
    exact bind_of e2' rfl
  have n5 : ¬ decide (a1 = (5 : Int)) = true := by rw [decide_eq_true_eq]; exact h5
  refine ⟨0, fun k hk => ?_⟩
  show F21 _ _ _ = _
  rw [F21]
  refine (if_neg n1).trans ((if_neg n2).trans ((if_neg n3).trans ((if_neg n4).trans ((if_neg n5).trans ?_))))
  refine bind_of (mark_ok s) (bind_of (rmark_ok r) (bind_of (len_ok s) (bind_of (rlen_ok r) ?_)))
  refine (if_pos (show decide ((s.bl.length : Int) = (r.L.length : Int)) = true by rw [decide_eq_true_eq, hlen])).trans ((if_pos (show decide (s.k = r.g) = true by rw [decide_eq_true_eq]; exact h.g.symm)).trans ?_)
  have hb := h.b
  show some ((s.md == r.b), AMt s r) = _
  rw [hb]
  cases s.md <;> rfl
end Go.Eng.He

set_option linter.unusedVariables false
namespace Go.Eng.He
open Go Go.Eng Go.Proofs
abbrev Op5 := Int × Int × Int × Int × Int
theorem same_nil {k : Nat} (a : Int) : F37 (k + 1) ([], [], a, ()) () = some (true, ()) := by
  have h0 : L37_7 (k + 1) ([], [], (0 : Int), (0 : Int), ()) () = some (true, ()) := rfl
  rw [F37]
  by_cases h : (0 : Int) < a
  · have hn : ¬ decide (a < (([] : List Itm).length : Int)) = true := by rw [decide_eq_true_eq]; show ¬ a < 0; omega
    refine (if_pos (decide_eq_true h)).trans ((if_neg hn).trans ?_)
    exact h0
  · refine (if_neg (by rw [decide_eq_true_eq]; exact h)).trans ?_
    exact h0
theorem nil_n {k : Nat} (a1 a2 a3 a4 a5 : Int) : F21n (k + 1) ((), (), (a1, a2, a3, a4, a5, ()), ()) () = some (true, ()) := by
  have h := same_nil (k := k) a5
  rw [F21n]
  by_cases h1 : a1 = 1
  · rw [if_pos (decide_eq_true h1)]; rfl
  rw [if_neg (by rw [decide_eq_true_eq]; exact h1)]
  by_cases h2 : a1 = 2
  · rw [if_pos (decide_eq_true h2)]; rfl
  rw [if_neg (by rw [decide_eq_true_eq]; exact h2)]
  by_cases h3 : a1 = 3
  · rw [if_pos (decide_eq_true h3)]; rfl
  rw [if_neg (by rw [decide_eq_true_eq]; exact h3)]
  by_cases h4 : a1 = 4
  · rw [if_pos (decide_eq_true h4)]; rfl
  rw [if_neg (by rw [decide_eq_true_eq]; exact h4)]
  by_cases h5 : a1 = 5
  · rw [if_pos (decide_eq_true h5)]
    refine bind_of (v := (((), true, ()), ())) rfl ?_
    show Option.bind (F37 (k + 1) ([], [], a5, ()) ()) _ = _
    exact bind_of h rfl
  rw [if_neg (by rw [decide_eq_true_eq]; exact h5)]
  rfl
theorem nil_ev (a1 a2 a3 a4 a5 : Int) : Evt (fun k => F21n k ((), (), (a1, a2, a3, a4, a5, ()), ()) ()) (true, ()) := .now fun k => nil_n a1 a2 a3 a4 a5
theorem new_no {m : Int} (h : m < 1 ∨ 65536 < m) : F9 (m, ()) () = some (Sum.inl (((), 1, ()), ())) := by
  rw [F9]
  by_cases h1 : m < 1
  · exact if_pos (decide_eq_true h1)
  · exact (if_neg (by rw [decide_eq_true_eq]; exact h1)).trans (if_pos (decide_eq_true (h.resolve_left h1)))
theorem rnew_no {m : Int} (h : m < 1 ∨ 65536 < m) : F20 (m, ()) () = some (Sum.inl (((), 1, ()), ())) := by
  rw [F20]
  by_cases h1 : m < 1
  · exact if_pos (decide_eq_true h1)
  · exact (if_neg (by rw [decide_eq_true_eq]; exact h1)).trans (if_pos (decide_eq_true (h.resolve_left h1)))
theorem rnew_ok {m : Int} (h0 : 1 ≤ m) (h : m ≤ 65536) : F20 (m, ()) () = some (Sum.inr (((), 0, ()), (RS.mk m [] 0 false).O)) := by
  rw [F20]
  exact (if_neg (fun h' => absurd (of_decide_eq_true h') (show ¬ m < 1 by omega))).trans (if_neg (fun h' => absurd (of_decide_eq_true h') (show ¬ 65536 < m by omega)))
theorem rl_empty {m : Int} (h0 : 1 ≤ m) (h : m ≤ 65536) : Rl (empty m) ⟨m, [], 0, false⟩ :=
  ⟨inv_empty h0 h, by show ((0 : Nat) : Int) ≤ m; omega, rfl, rfl, rfl, List.nodup_nil, Int.le_refl _, (fun e he => nomatch he), [], List.Pairwise.nil, List.Perm.refl _, rfl⟩
theorem plays_nil {a : List Op5} (hl : a.length < 1000000000000000) : ∀ (d i : Nat), i + d = a.length → Ev2 (fun K k => L6_6a K k (a, (), (), (i : Int), ()) ()) (true, ()) := by
  intro d
  induction d with
  | zero =>
    intro i hi
    refine .now fun K k => ?_
    rw [L6_6a]
    exact if_neg (nlt_c (by omega))
  | succ d ih =>
    intro i hi
    obtain ⟨K2, e2⟩ := nil_ev 0 0 0 0 0
    refine .step (nil_ev (a.getD i (0, 0, 0, 0, 0)).1 (a.getD i (0, 0, 0, 0, 0)).2.1 (a.getD i (0, 0, 0, 0, 0)).2.2.1 (a.getD i (0, 0, 0, 0, 0)).2.2.2.1 (a.getD i (0, 0, 0, 0, 0)).2.2.2.2) (h := fun K k => Option.bind (F21n K ((), (), ((0 : Int), (0 : Int), (0 : Int), (0 : Int), (0 : Int), ()), ()) ()) fun val => if (!val.1) = true then some (false, ()) else L6_6a K k (a, (), (), ((i + 1 : Nat) : Int), ()) ()) (.bind (nil_ev 0 0 0 0 0) (ih (i + 1) (by omega)) fun K k e => bind_of e (if_neg (show ¬ (!true) = true by decide))) fun K k e => ?_
    rw [L6_6a]
    simp only [add1 (show i < 4611686018427387904 by omega)]
    refine (if_pos (lt_c (by omega))).trans ((if_pos (inN (by omega))).trans ?_)
    exact bind_of e (if_neg (show ¬ (!true) = true by decide))
theorem plays_loop {a : List Op5} (hl : a.length < 1000000000000000) : ∀ (d i : Nat) (s : HS) (r : RS), i + d = a.length → Rl s r → s.t ≤ 2 * i → Ev2 (fun K k => L6_6b K k (a, (), (), (i : Int), ()) (AOt s r)) (true, ()) := by
  intro d
  induction d with
  | zero =>
    intro i s r hi hR ht
    refine .now fun K k => ?_
    rw [L6_6b]
    exact if_neg (nlt_c (by omega))
  | succ d ih =>
    intro i s r hi hR ht
    obtain ⟨s1, r1, hR1, t1, m1, e1⟩ := asks_ok hR (by omega) (a.getD i (0, 0, 0, 0, 0)).1 (a.getD i (0, 0, 0, 0, 0)).2.1 (a.getD i (0, 0, 0, 0, 0)).2.2.1 (a.getD i (0, 0, 0, 0, 0)).2.2.2.1 (a.getD i (0, 0, 0, 0, 0)).2.2.2.2
    obtain ⟨s2, r2, hR2, t2, m2, e2⟩ := asks_ok hR1 (by omega) 0 0 0 0 0
    refine .step e1 (h := fun K k => Option.bind (F21 K ((), (), ((0 : Int), (0 : Int), (0 : Int), (0 : Int), (0 : Int), ()), ()) (AOt s1 r1)) fun val => if (!val.1) = true then some (false, ()) else L6_6b K k (a, (), (), ((i + 1 : Nat) : Int), ()) ((val.2.1.1, (), (), (), (), val.2.1.2.2.2.2.2.1, val.2.1.2.2.2.2.2.2.1, val.2.1.2.2.2.2.2.2.2.1, ()), val.2.2.2.2.2.2.2.2.2.2.2.2.2.1, val.2.2.2.2.2.2.2.2.2.2.2.2.2.2.1, (((), ()), (), (), ()), ((), ()), val.2.2.2.2.2.2.2.2.2.2.2.2.2.2.2.1, val.2.2.2.2.2.2.2.2.2.2.2.2.2.2.2.2.1, (((), ()), (), (), ()), val.2.2.2.2.2.2.2.2.2.2.2.2.2.2.2.2.2.1, val.2.2.2.2.2.2.2.2.2.2.2.2.2.2.2.2.2.2.1, (val.2.2.2.2.2.2.2.2.2.2.2.1.1, (), val.2.2.2.2.2.2.2.2.2.2.2.1.2.2.1, val.2.2.2.2.2.2.2.2.2.2.2.1.2.2.2.1, ()), val.2.2.2.2.2.2.2.2.2.2.2.2.2.2.2.2.2.2.2.1, ())) (.bind e2 (ih (i + 1) s2 r2 (by omega) hR2 (by omega)) fun K k e => bind_of e (if_neg (show ¬ (!true) = true by decide))) fun K k e => ?_
    rw [L6_6b]
    simp only [add1 (show i < 4611686018427387904 by omega)]
    refine (if_pos (lt_c (by omega))).trans ((if_pos (inN (by omega))).trans ?_)
    exact bind_of e (if_neg (show ¬ (!true) = true by decide))
theorem plays_law {a1 : Int} {a2 : List Op5} (h2 : a2.length ≤ 140737488355328) : ∃ K, F6 K (a1, a2, ()) () = some (true, ()) := by
  by_cases hm : 1 ≤ a1 ∧ a1 ≤ 65536
  · obtain ⟨K, h⟩ := (plays_loop (a := a2) (by omega) a2.length 0 (empty a1) ⟨a1, [], 0, false⟩ (by omega) (rl_empty hm.1 hm.2) (Int.le_refl _)).diag
    refine ⟨K + 200001, ?_⟩
    rw [F6]
    refine bind_of (new_ok hm.1 hm.2) ?_
    dsimp only [Sum.elim_inr]
    refine bind_of (rnew_ok hm.1 hm.2) ?_
    dsimp only [Sum.elim_inr]
    refine bind_of rfl ?_
    refine (if_neg (show ¬ (!decide ((0 : Int) = 0)) = true by decide)).trans ?_
    refine bind_of (knows_ok (by omega)) ?_
    exact (if_neg (show ¬ (!true) = true by decide)).trans (h (K + 200001) (by omega))
  · obtain ⟨K, h⟩ := (plays_nil (a := a2) (by omega) a2.length 0 (by omega)).diag
    have hm' : a1 < 1 ∨ 65536 < a1 := by omega
    refine ⟨K + 200001, ?_⟩
    rw [F6]
    refine bind_of (new_no hm') ?_
    dsimp only [Sum.elim_inl]
    refine bind_of (rnew_no hm') ?_
    dsimp only [Sum.elim_inl]
    refine bind_of rfl ?_
    refine (if_neg (show ¬ (!decide ((1 : Int) = 1)) = true by decide)).trans ?_
    refine bind_of (knows_ok (by omega)) ?_
    exact (if_neg (show ¬ (!true) = true by decide)).trans (h (K + 200001) (by omega))
end Go.Eng.He

