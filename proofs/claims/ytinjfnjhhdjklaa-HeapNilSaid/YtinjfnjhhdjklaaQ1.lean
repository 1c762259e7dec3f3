/- What the functions of this seat come to, in plain Lean, part 1. No condition. -/
import Derived.Test.YtinjfnjhhdjklaaG1
import Derived.IntWalk
import Derived.Test.YtinjfnjhhdjklaaG2
set_option linter.unusedVariables false
set_option linter.unusedSimpArgs false
/- A heap's side, in plain lists. No condition. -/
namespace Go.Eng.He
abbrev gi (l : List Int) (i : Nat) : Int := l.getD i 0
theorem gi_set {l : List Int} {i j : Nat} {v : Int} (hi : i < l.length) : gi (l.set i v) j = if i = j then v else gi l j := by
  simp only [gi, List.getD_eq_getElem?_getD, List.getElem?_set]
  split
  · simp
  · rfl
theorem gi_mem {l : List Int} {i : Nat} (hi : i < l.length) : gi l i ∈ l := by
  simp only [gi, List.getD_eq_getElem?_getD, List.getElem?_eq_getElem hi, Option.getD_some]; exact List.getElem_mem hi
theorem mem_gi {l : List Int} {x : Int} (h : x ∈ l) : ∃ i, i < l.length ∧ gi l i = x := by
  obtain ⟨i, hi, e⟩ := List.getElem_of_mem h
  exact ⟨i, hi, by simp only [gi, List.getD_eq_getElem?_getD, List.getElem?_eq_getElem hi, Option.getD_some]; exact e⟩
/-- Each number stands where `at` says. -/
def Sd (l at' : List Int) : Prop := ∀ i, i < l.length → 0 ≤ gi l i ∧ (gi l i).toNat < at'.length ∧ gi at' (gi l i).toNat = (i : Int)
theorem Sd.inj {l at' : List Int} (h : Sd l at') {i j : Nat} (hi : i < l.length) (hj : j < l.length) (e : gi l i = gi l j) : i = j := by
  have h1 := (h i hi).2.2; have h2 := (h j hj).2.2
  rw [e] at h1; omega
def swL (l : List Int) (i k : Nat) : List Int := (l.set i (gi l k)).set k (gi l i)
def swA (l at' : List Int) (i k : Nat) : List Int := (at'.set (gi (swL l i k) i).toNat (i : Int)).set (gi (swL l i k) k).toNat (k : Int)
theorem swL_len {l : List Int} {i k : Nat} : (swL l i k).length = l.length := by simp [swL]
theorem swA_len {l at' : List Int} {i k : Nat} : (swA l at' i k).length = at'.length := by simp [swA]
section
variable {l at' : List Int} {i k : Nat} (hi : i < l.length) (hk : k < l.length)
include hi hk
theorem swL_gi (j : Nat) : gi (swL l i k) j = if k = j then gi l i else if i = j then gi l k else gi l j := by
  unfold swL
  rw [gi_set (by rw [List.length_set]; exact hk), gi_set hi]
theorem swL_perm : (swL l i k).Perm l := by
  have := List.set_set_perm hi hk
  unfold swL
  rwa [show gi l k = l[k] from by simp [gi, List.getD_eq_getElem?_getD, hk], show gi l i = l[i] from by simp [gi, List.getD_eq_getElem?_getD, hi]]
theorem sd_swap (h : Sd l at') : Sd (swL l i k) (swA l at' i k) := by
  intro j hj
  rw [swL_len] at hj
  have b1 := h i hi; have b2 := h k hk; have b3 := h j hj
  have e1 : gi (swL l i k) i = gi l k := by rw [swL_gi hi hk]; by_cases h : k = i <;> simp [h]
  have e2 : gi (swL l i k) k = gi l i := by rw [swL_gi hi hk]; simp
  rw [swA_len]
  unfold swA
  rw [e1, e2, gi_set (by rw [List.length_set]; exact b1.2.1), gi_set b2.2.1, swL_gi hi hk]
  by_cases hkj : k = j
  · subst hkj; simp only [if_true]; exact ⟨b1.1, b1.2.1, trivial⟩
  · rw [if_neg hkj]
    by_cases hij : i = j
    · subst hij; simp only [if_true]
      refine ⟨b2.1, b2.2.1, ?_⟩
      rw [if_neg]
      intro e
      exact hkj (h.inj hi hk (by omega)).symm
    · rw [if_neg hij]
      refine ⟨b3.1, b3.2.1, ?_⟩
      rw [if_neg, if_neg]
      · exact b3.2.2
      · intro e; exact hkj (h.inj hk hj (by omega))
      · intro e; exact hij (h.inj hi hj (by omega))
end
/-! The order. -/
structure Ord (ah : Int → Int → Bool) : Prop where
  asym : ∀ x y, ah x y = true → ah y x = false
  neg : ∀ x y z, ah x y = false → ah y z = false → ah x z = false
def okP (ah : Int → Int → Bool) (l : List Int) (j : Nat) : Prop := ah (gi l j) (gi l ((j - 1) / 2)) = false
def Hp (ah : Int → Int → Bool) (l : List Int) : Prop := ∀ j, 0 < j → j < l.length → okP ah l j
/-- No child of i goes ahead of i's father. -/
def Gp (ah : Int → Int → Bool) (l : List Int) (i : Nat) : Prop := ∀ j, 0 < j → j < l.length → (j - 1) / 2 = i → 0 < i → ah (gi l j) (gi l ((i - 1) / 2)) = false
def ExU (ah : Int → Int → Bool) (l : List Int) (i : Nat) : Prop := (∀ j, 0 < j → j < l.length → j ≠ i → okP ah l j) ∧ Gp ah l i
def ExD (ah : Int → Int → Bool) (l : List Int) (i : Nat) : Prop := (∀ j, 0 < j → j < l.length → (j - 1) / 2 ≠ i → okP ah l j) ∧ Gp ah l i
def ExB (ah : Int → Int → Bool) (l : List Int) (i : Nat) : Prop := (∀ j, 0 < j → j < l.length → j ≠ i → (j - 1) / 2 ≠ i → okP ah l j) ∧ Gp ah l i
section
variable {ah : Int → Int → Bool} {l : List Int}
theorem Hp.exD (ho : Ord ah) (h : Hp ah l) (i : Nat) : ExD ah l i :=
  ⟨fun j h0 h1 _ => h j h0 h1, fun j h0 h1 h2 h3 => ho.neg _ (gi l i) _ (by have := h j h0 h1; unfold okP at this; rwa [h2] at this) (h i h3 (by omega))⟩
/-- The root goes ahead of none behind another. -/
theorem Hp.root (ho : Ord ah) (h : Hp ah l) : ∀ j, j < l.length → ah (gi l j) (gi l 0) = false := by
  intro j
  induction j using Nat.strongRecOn with
  | _ j ih =>
    intro hj
    by_cases h0 : j = 0
    · subst h0
      cases e : ah (gi l 0) (gi l 0) with
      | false => rfl
      | true => have := ho.asym _ _ e; rw [e] at this; exact this
    · exact ho.neg _ (gi l ((j - 1) / 2)) _ (h j (by omega) hj) (ih ((j - 1) / 2) (by omega) (by omega))
/-- A step up. -/
theorem up_step (ho : Ord ah) {i : Nat} (hi : i < l.length) (h0 : 0 < i) (hb : ExB ah l i) (ha : ah (gi l i) (gi l ((i - 1) / 2)) = true) : ExU ah (swL l i ((i - 1) / 2)) ((i - 1) / 2) := by
  have hp : (i - 1) / 2 < l.length := by omega
  have hne : (i - 1) / 2 ≠ i := by omega
  have ha' := ho.asym _ _ ha
  constructor
  · intro j hj0 hj hjp
    rw [swL_len] at hj
    unfold okP
    rw [swL_gi hi hp, swL_gi hi hp]
    rw [if_neg (Ne.symm hjp)]
    by_cases hji : i = j
    · subst hji; rw [if_pos rfl, if_pos rfl]; exact ha'
    · rw [if_neg hji]
      by_cases hq : (i - 1) / 2 = (j - 1) / 2
      · rw [if_pos hq]
        have h1 := hb.1 j hj0 hj (Ne.symm hji) (by omega)
        unfold okP at h1; rw [← hq] at h1
        exact ho.neg _ _ _ h1 ha'
      · rw [if_neg hq]
        by_cases hc : i = (j - 1) / 2
        · rw [if_pos hc]; exact hb.2 j hj0 hj hc.symm h0
        · rw [if_neg hc]; exact hb.1 j hj0 hj (Ne.symm hji) (Ne.symm hc)
  · intro j hj0 hj hjp hp0
    rw [swL_len] at hj
    rw [swL_gi hi hp, swL_gi hi hp, if_neg (by omega), if_neg (show ¬ (i - 1) / 2 = ((i - 1) / 2 - 1) / 2 by omega), if_neg (show ¬ i = ((i - 1) / 2 - 1) / 2 by omega)]
    have hpp := hb.1 ((i - 1) / 2) hp0 hp (by omega) (by omega)
    by_cases hji : i = j
    · rw [if_pos hji]; exact hpp
    · rw [if_neg hji]
      have h1 := hb.1 j hj0 hj (Ne.symm hji) (by omega)
      unfold okP at h1; rw [hjp] at h1
      exact ho.neg _ _ _ h1 hpp
theorem ExU.exB {i : Nat} (h : ExU ah l i) : ExB ah l i := ⟨fun j h0 h1 h2 _ => h.1 j h0 h1 h2, h.2⟩
theorem ExB.stop {i : Nat} (h : ExB ah l i) (hs : 0 < i → okP ah l i) : ExD ah l i :=
  ⟨fun j h0 h1 h2 => if e : j = i then e ▸ hs (e ▸ h0) else h.1 j h0 h1 e h2, h.2⟩
theorem ExU.stop {i : Nat} (h : ExU ah l i) (hs : 0 < i → okP ah l i) : Hp ah l :=
  fun j h0 h1 => if e : j = i then e ▸ hs (e ▸ h0) else h.1 j h0 h1 e
/-- A step down: k is the child that goes ahead. -/
theorem down_step (ho : Ord ah) {i k : Nat} (hk : k < l.length) (h0 : 0 < k) (hki : (k - 1) / 2 = i) (hd : ExD ah l i) (hm : ∀ j, 0 < j → j < l.length → (j - 1) / 2 = i → ah (gi l j) (gi l k) = false)
    (ha : ah (gi l k) (gi l i) = true) : ExD ah (swL l i k) k := by
  have hi : i < l.length := by omega
  have ha' := ho.asym _ _ ha
  constructor
  · intro j hj0 hj hjp
    rw [swL_len] at hj
    unfold okP
    rw [swL_gi hi hk, swL_gi hi hk, if_neg (show ¬ k = (j - 1) / 2 from Ne.symm hjp)]
    by_cases hjk : k = j
    · subst hjk; rw [if_pos rfl, if_pos hki.symm]; exact ha'
    · rw [if_neg hjk]
      by_cases hji : i = j
      · subst hji
        rw [if_pos rfl, if_neg (by omega)]
        exact hd.2 k h0 hk hki hj0
      · rw [if_neg hji]
        by_cases hq : i = (j - 1) / 2
        · rw [if_pos hq]; exact hm j hj0 hj hq.symm
        · rw [if_neg hq]; exact hd.1 j hj0 hj (Ne.symm hq)
  · intro j hj0 hj hjp hk0
    rw [swL_len] at hj
    rw [swL_gi hi hk, swL_gi hi hk, if_neg (by omega), if_neg (by omega), if_neg (by omega), if_pos hki.symm]
    have h1 := hd.1 j hj0 hj (by omega)
    unfold okP at h1; rwa [hjp] at h1
theorem ExD.stop {i : Nat} (h : ExD ah l i) (hs : ∀ j, 0 < j → j < l.length → (j - 1) / 2 = i → okP ah l j) : Hp ah l :=
  fun j h0 h1 => if e : (j - 1) / 2 = i then hs j h0 h1 e else h.1 j h0 h1 e
/-- The last one, with another's place taken by it. -/
theorem out_exB (ho : Ord ah) (h : Hp ah l) {i : Nat} (hi : i + 1 < l.length) : ExB ah ((swL l i (l.length - 1)).take (l.length - 1)) i := by
  have hl : l.length - 1 < l.length := by omega
  have hi' : i < l.length := by omega
  have hg : ∀ j, j < l.length - 1 → gi ((swL l i (l.length - 1)).take (l.length - 1)) j = if i = j then gi l (l.length - 1) else gi l j := by
    intro j hj
    rw [show gi ((swL l i (l.length - 1)).take (l.length - 1)) j = gi (swL l i (l.length - 1)) j from by simp only [gi, List.getD_eq_getElem?_getD]; rw [List.getElem?_take_of_lt hj], swL_gi hi' hl, if_neg (by omega)]
  have hlen : ((swL l i (l.length - 1)).take (l.length - 1)).length = l.length - 1 := by rw [List.length_take, swL_len]; omega
  constructor
  · intro j hj0 hj h1 h2
    rw [hlen] at hj
    unfold okP
    rw [hg j hj, hg _ (by omega), if_neg (Ne.symm h1), if_neg (Ne.symm h2)]
    exact h j hj0 (by omega)
  · intro j hj0 hj h1 h2
    rw [hlen] at hj
    rw [hg j hj, hg _ (by omega), if_neg (by omega), if_neg (by omega)]
    exact (h.exD ho i).2 j hj0 (by omega) h1 h2
theorem Hp.take (h : Hp ah l) (n : Nat) : Hp ah (l.take n) := by
  intro j h0 h1
  rw [List.length_take] at h1
  have hg : ∀ j, j < n → gi (l.take n) j = gi l j := fun j hj => by simp only [gi, List.getD_eq_getElem?_getD]; rw [List.getElem?_take_of_lt hj]
  unfold okP
  rw [hg _ (by omega), hg _ (by omega)]
  exact h j h0 (by omega)
theorem gi_app {l : List Int} {n : Int} {j : Nat} (hj : j < l.length) : gi (l ++ [n]) j = gi l j := by simp only [gi, List.getD_eq_getElem?_getD]; rw [List.getElem?_append_left hj]
theorem gi_last {l : List Int} {n : Int} : gi (l ++ [n]) l.length = n := by simp [gi, List.getD_eq_getElem?_getD]
theorem put_exU (h : Hp ah l) (n : Int) : ExU ah (l ++ [n]) l.length := by
  constructor
  · intro j h0 h1 h2
    rw [List.length_append, List.length_singleton] at h1
    unfold okP
    rw [gi_app (by omega), gi_app (by omega)]
    exact h j h0 (by omega)
  · intro j h0 h1 h2 h3
    rw [List.length_append, List.length_singleton] at h1
    omega
end
theorem sd_take {l at' : List Int} (h : Sd l at') (n : Nat) : Sd (l.take n) at' := by
  intro i hi
  rw [List.length_take] at hi
  rw [show gi (l.take n) i = gi l i from by simp only [gi, List.getD_eq_getElem?_getD]; rw [List.getElem?_take_of_lt (by omega)]]
  exact h i (by omega)
theorem sd_put {l at' : List Int} (h : Sd l at') {n : Nat} (hn : n < at'.length) (hm : (n : Int) ∉ l) : Sd (l ++ [(n : Int)]) (at'.set n l.length) := by
  intro i hi
  rw [List.length_append, List.length_singleton] at hi
  rw [List.length_set]
  by_cases e : i = l.length
  · subst e
    rw [gi_last]
    exact ⟨by omega, by simpa using hn, by rw [Int.toNat_natCast, gi_set hn, if_pos rfl]⟩
  · have hi' : i < l.length := by omega
    rw [gi_app hi']
    have := h i hi'
    refine ⟨this.1, this.2.1, ?_⟩
    rw [gi_set hn, if_neg, this.2.2]
    intro e'
    exact hm (by rw [show (n : Int) = gi l i by omega]; exact gi_mem hi')
theorem sd_grow {l at' : List Int} (h : Sd l at') (m : List Int) : Sd l (at' ++ m) := by
  intro i hi
  obtain ⟨h1, h2, h3⟩ := h i hi
  refine ⟨h1, by rw [List.length_append]; omega, ?_⟩
  rw [← h3]
  generalize (gi l i).toNat = v at h2
  simp only [gi, List.getD_eq_getElem?_getD]; rw [List.getElem?_append_left h2]
theorem take_perm {l : List Int} {n : Int} {m : Nat} (h : l.length = m + 1) (hn : gi l m = n) : l.Perm (n :: l.take m) := by
  have : l = l.take m ++ [n] := by
    rw [← hn]
    apply List.ext_getElem?
    intro j
    by_cases hj : j < m
    · rw [List.getElem?_append_left (by rw [List.length_take]; omega), List.getElem?_take_of_lt hj]
    · rw [List.getElem?_append_right (by rw [List.length_take]; omega), List.length_take, show min m l.length = m by omega]
      by_cases e : j = m
      · subst e; simp [gi, List.getD_eq_getElem?_getD, show j < l.length by omega]
      · rw [List.getElem?_eq_none (by omega), List.getElem?_eq_none (by simp; omega)]
  have e2 := List.perm_append_singleton n (l.take m)
  rw [← this] at e2
  exact e2
theorem nodup_of {l at' : List Int} (h : Sd l at') : l.Nodup := by
  rw [List.nodup_iff_pairwise_ne, List.pairwise_iff_getElem]
  intro i j hi hj hij e
  have : i = j := h.inj hi hj (by simp only [gi, List.getD_eq_getElem?_getD]; rw [List.getElem?_eq_getElem hi, List.getElem?_eq_getElem hj, e])
  omega
end Go.Eng.He

/- The heap's functions, one by one. No condition. -/
set_option linter.unusedVariables false
namespace Go.Eng.He
open Go Go.Eng Go.Proofs
theorem wi {n : Int} (h0 : -9223372036854775808 ≤ n) (h : n ≤ 9223372036854775807) : IntKind.wrap IntKind.i64 n = n := by rw [IntKind.wrap_i64]; omega
theorem inR {x : Int} {n : Nat} (h : 0 ≤ x ∧ x.toNat < n) : (0 : Int) ≤ x ∧ x < (n : Int) := by omega
theorem inN {i n : Nat} (h : i < n) : (0 : Int) ≤ (i : Int) ∧ (i : Int) < (n : Int) := by omega
theorem bind_of {α β : Type} {o : Option α} {v : α} {f : α → Option β} {r : Option β} (h : o = some v) (h2 : f v = r) : Option.bind o f = r := by rw [h]; exact h2
abbrev Ent := Int × Int × Int × Int
def btr (a b : Ent) : Bool := if a.1 = b.1 then if a.2.1 = b.2.1 then decide (b.2.2.2 < a.2.2.2) else decide (b.2.1 < a.2.1) else decide (b.1 < a.1)
theorem btr_asym (a b : Ent) (h : btr a b = true) : btr b a = false := by
  unfold btr at *
  repeat' split at h
  all_goals simp only [decide_eq_true_eq] at h
  all_goals repeat' split
  all_goals simp only [decide_eq_false_iff_not]
  all_goals omega
theorem btr_neg (a b c : Ent) (h : btr a b = false) (h2 : btr b c = false) : btr a c = false := by
  unfold btr at *
  repeat' split at h
  all_goals simp only [decide_eq_false_iff_not] at h
  all_goals repeat' split at h2
  all_goals simp only [decide_eq_false_iff_not] at h2
  all_goals repeat' split
  all_goals simp only [decide_eq_false_iff_not]
  all_goals omega
def en (all : List Ent) (x : Int) : Ent := all.getD x.toNat (0, 0, 0, 0)
def ahb (all : List Ent) (x y : Int) : Bool := btr (en all x) (en all y)
def ahw (all : List Ent) (x y : Int) : Bool := btr (en all y) (en all x)
theorem ord_b (all : List Ent) : Ord (ahb all) := ⟨fun _ _ h => btr_asym _ _ h, fun _ _ _ h h2 => btr_neg _ _ _ h h2⟩
theorem ord_w (all : List Ent) : Ord (ahw all) := ⟨fun _ _ h => btr_asym _ _ h, fun _ _ _ h h2 => btr_neg _ _ _ h2 h⟩
theorem f23_ok (a1 a2 a3 a4 b1 b2 b3 b4 : Int) : F23 ((a1, a2, a3, a4, ()), (b1, b2, b3, b4, ()), ()) () = some (btr (a1, a2, a3, a4) (b1, b2, b3, b4), ()) := by
  rw [F23]; unfold btr
  by_cases h1 : a1 = b1
  · by_cases h2 : a2 = b2 <;> simp [h1, h2]
  · simp [h1]
abbrev RO (m t mk : Int) (md : Bool) (all : List Ent) : OPL.T os22 := (((), ()), (m, (), (), (), (), t, mk, md, ()), all, (), (), (), (), (), (), (), ())
abbrev SP (m t mk : Int) (md : Bool) (all : List Ent) (fr ol oa l at' : List Int) : OPL.T os27b_0 := ((((), ()), (), (), ()), ((), ()), (m, (), (), (), (), t, mk, md, ()), (), (), (((), ()), (), (), ()), (), (), (), (), l, at', all, fr, ol, oa, ())
abbrev SS (m t mk : Int) (md : Bool) (all : List Ent) (fr ol oa l at' : List Int) : OPL.T os45b := ((((), ()), (), (), ()), ((), ()), (m, (), (), (), (), t, mk, md, ()), all, fr, (((), ()), (), (), ()), ol, oa, l, at', ())
/-- All numbers are of entries. -/
def Bd (all : List Ent) (l : List Int) : Prop := ∀ x ∈ l, 0 ≤ x ∧ x.toNat < all.length
theorem Bd.perm {all : List Ent} {l l' : List Int} (h : Bd all l) (p : l'.Perm l) : Bd all l' := fun x hx => h x (p.mem_iff.1 hx)
theorem tdiv2 {i : Nat} (h : 0 < i) (hi : i < 4611686018427387904) : IntKind.wrap IntKind.i64 (Int.tdiv (IntKind.wrap IntKind.i64 ((i : Int) - (1 : Int))) (2 : Int)) = (((i - 1) / 2 : Nat) : Int) := by
  rw [wi (n := (i : Int) - 1) (by omega) (by omega), Int.tdiv_eq_ediv_of_nonneg (by omega), wi (by omega) (by omega)]; omega
theorem dbl1 {i : Nat} (hi : i < 2305843009213693952) : IntKind.wrap IntKind.i64 (IntKind.wrap IntKind.i64 ((2 : Int) * (i : Int)) + (1 : Int)) = ((2 * i + 1 : Nat) : Int) := by
  rw [wi (n := 2 * (i : Int)) (by omega) (by omega), wi (by omega) (by omega)]; omega
theorem add1 {i : Nat} (hi : i < 4611686018427387904) : IntKind.wrap IntKind.i64 ((i : Int) + (1 : Int)) = ((i + 1 : Nat) : Int) := by
  rw [wi (by omega) (by omega)]; omega
/-! the side b -/
theorem ahead_b {m t mk : Int} {md : Bool} {all : List Ent} {x y : Int} (hx : 0 ≤ x ∧ x.toNat < all.length) (hy : 0 ≤ y ∧ y.toNat < all.length) : F22 (x, y, (), ()) (RO m t mk md all) = some (ahb all x y, RO m t mk md all) := by
  rw [F22]
  refine (if_pos (inR hx)).trans ((if_pos hx.2).trans ((if_pos (inR hy)).trans ((if_pos hy.2).trans ?_)))
  refine bind_of (f23_ok _ _ _ _ _ _ _ _) ?_
  rfl
theorem swap_b {m t mk : Int} {md : Bool} {all : List Ent} {fr ol oa l at' : List Int} {i k : Nat} (hi : i < l.length) (hk : k < l.length) (h : Sd l at') :
    F45b ((), (i : Int), (k : Int), ()) (SS m t mk md all fr ol oa l at') = some ((), SS m t mk md all fr ol oa (swL l i k) (swA l at' i k)) := by
  rw [F45b]
  simp only [Int.toNat_natCast]
  have e : List.set (List.set l i (List.getD l k 0)) k (List.getD l i 0) = swL l i k := rfl
  simp only [e, List.length_set, swL_len]
  have b1 := sd_swap hi hk h i (by rw [swL_len]; exact hi)
  have b2 := sd_swap hi hk h k (by rw [swL_len]; exact hk)
  rw [swA_len] at b1 b2
  refine (if_pos (inN hk)).trans ((if_pos hk).trans ((if_pos (inN hi)).trans ((if_pos hi).trans ?_)))
  refine (if_pos (inN hi)).trans ((if_pos hi).trans ((if_pos (inN hk)).trans ((if_pos hk).trans ?_)))
  refine (if_pos (inN hi)).trans ((if_pos hi).trans ((if_pos (inN hk)).trans ((if_pos hk).trans ?_)))
  refine (if_pos (inR ⟨b1.1, b1.2.1⟩)).trans ((if_pos b1.2.1).trans ((if_pos (inR ⟨b2.1, b2.2.1⟩)).trans ((if_pos b2.2.1).trans ?_)))
  rfl
theorem upl_b {m t mk : Int} {md : Bool} {all : List Ent} {fr ol oa : List Int} : ∀ (k i : Nat) (l at' : List Int), i < k → i < l.length → l.length < 1152921504606846976 → Sd l at' → Bd all l →
    ∃ l' at2, L41b_0 k ((), (i : Int), ()) (SS m t mk md all fr ol oa l at') = some ((), SS m t mk md all fr ol oa l' at2) ∧ l'.Perm l ∧ at2.length = at'.length ∧ Sd l' at2 ∧
      (ExU (ahb all) l i → Hp (ahb all) l') ∧ (ExB (ahb all) l i → ExD (ahb all) l' i)
  | 0, i, l, at', h, _, _, _, _ => by omega
  | k + 1, i, l, at', hk, hi, hl, hs, hb => by
    by_cases h0 : i = 0
    · subst h0
      refine ⟨l, at', ?_, List.Perm.refl _, rfl, hs, fun h => h.stop fun h => absurd h (by omega), fun h => h.stop fun h => absurd h (by omega)⟩
      rw [L41b_0]; exact if_neg (by decide)
    · have h0 : 0 < i := by omega
      have hp : (i - 1) / 2 < l.length := by omega
      have hw := tdiv2 h0 (by omega)
      have hx := hb _ (gi_mem hi); have hy := hb _ (gi_mem hp)
      cases ha : ahb all (gi l i) (gi l ((i - 1) / 2)) with
      | false =>
        refine ⟨l, at', ?_, List.Perm.refl _, rfl, hs, fun h => h.stop fun _ => ha, fun h => h.stop fun _ => ha⟩
        rw [L41b_0]
        refine (if_pos (by rw [decide_eq_true_eq]; omega)).trans ?_
        simp only [hw, Int.toNat_natCast]
        refine (if_pos (inN hi)).trans ((if_pos hi).trans ((if_pos (inN hp)).trans ((if_pos hp).trans ?_)))
        refine bind_of (ahead_b hx hy) ?_
        dsimp only
        exact if_neg (by rw [ha]; decide)
      | true =>
        obtain ⟨l', at2, e, p, hn, hs', c1, c2⟩ := upl_b k ((i - 1) / 2) (swL l i ((i - 1) / 2)) (swA l at' i ((i - 1) / 2)) (by omega) (by rw [swL_len]; exact hp) (by rw [swL_len]; exact hl) (sd_swap hi hp hs) (hb.perm (swL_perm hi hp))
        refine ⟨l', at2, ?_, p.trans (swL_perm hi hp), by rw [hn, swA_len], hs', fun h => c1 (up_step (ord_b all) hi h0 h.exB ha), fun h => (c1 (up_step (ord_b all) hi h0 h ha)).exD (ord_b all) i⟩
        rw [L41b_0]
        refine (if_pos (by rw [decide_eq_true_eq]; omega)).trans ?_
        simp only [hw, Int.toNat_natCast]
        refine (if_pos (inN hi)).trans ((if_pos hi).trans ((if_pos (inN hp)).trans ((if_pos hp).trans ?_)))
        refine bind_of (ahead_b hx hy) ?_
        dsimp only
        refine (if_pos ha).trans ?_
        refine bind_of (swap_b hi hp hs) ?_
        exact e
theorem up_b {m t mk : Int} {md : Bool} {all : List Ent} {fr ol oa : List Int} {k i : Nat} {l at' : List Int} (hk : i < k) (hi : i < l.length) (hl : l.length < 1152921504606846976) (hs : Sd l at') (hb : Bd all l) :
    ∃ l' at2, F41b k ((), (i : Int), ()) (SS m t mk md all fr ol oa l at') = some ((), SS m t mk md all fr ol oa l' at2) ∧ l'.Perm l ∧ at2.length = at'.length ∧ Sd l' at2 ∧
      (ExU (ahb all) l i → Hp (ahb all) l') ∧ (ExB (ahb all) l i → ExD (ahb all) l' i) := by
  obtain ⟨l', at2, e, h⟩ := upl_b (m := m) (t := t) (mk := mk) (md := md) (fr := fr) (ol := ol) (oa := oa) k i l at' hk hi hl hs hb
  exact ⟨l', at2, by rw [F41b]; exact e, h⟩
theorem downl_b {m t mk : Int} {md : Bool} {all : List Ent} {fr ol oa : List Int} : ∀ (k i : Nat) (l at' : List Int), l.length < k + i → i < l.length → l.length < 1152921504606846976 → Sd l at' → Bd all l → ExD (ahb all) l i →
    ∃ l' at2, L46b_0 k ((), (i : Int), ()) (SS m t mk md all fr ol oa l at') = some ((), SS m t mk md all fr ol oa l' at2) ∧ l'.Perm l ∧ at2.length = at'.length ∧ Sd l' at2 ∧ Hp (ahb all) l'
  | 0, i, l, at', h, h2, _, _, _, _ => by omega
  | k + 1, i, l, at', hk, hi, hl, hs, hb, hd => by
    have hx := hb _ (gi_mem hi)
    have e1 := dbl1 (i := i) (by omega)
    have e2 : IntKind.wrap IntKind.i64 (((2 * i + 1 : Nat) : Int) + (1 : Int)) = ((2 * i + 1 + 1 : Nat) : Int) := add1 (by omega)
    have fin : ∀ c, 0 < c → (c - 1) / 2 = i → c < l.length → (∀ j, 0 < j → j < l.length → (j - 1) / 2 = i → ahb all (gi l j) (gi l c) = false) →
        ∃ l' at2, (ahb all (gi l c) (gi l i) = false ∧ l' = l ∧ at2 = at' ∨ ahb all (gi l c) (gi l i) = true ∧ L46b_0 k ((), (c : Int), ()) (SS m t mk md all fr ol oa (swL l i c) (swA l at' i c)) = some ((), SS m t mk md all fr ol oa l' at2)) ∧
          l'.Perm l ∧ at2.length = at'.length ∧ Sd l' at2 ∧ Hp (ahb all) l' := by
      intro c h0 hc hcl hm
      cases ha : ahb all (gi l c) (gi l i) with
      | false => exact ⟨l, at', .inl ⟨rfl, rfl, rfl⟩, List.Perm.refl _, rfl, hs, hd.stop fun j j0 j1 j2 => by unfold okP; rw [j2]; exact (ord_b all).neg _ _ _ (hm j j0 j1 j2) ha⟩
      | true =>
        obtain ⟨l', at2, e, p, hn, hs', c1⟩ := downl_b k c (swL l i c) (swA l at' i c) (by rw [swL_len]; omega) (by rw [swL_len]; exact hcl) (by rw [swL_len]; exact hl) (sd_swap hi hcl hs) (hb.perm (swL_perm hi hcl)) (down_step (ord_b all) hcl h0 hc hd hm ha)
        exact ⟨l', at2, .inr ⟨rfl, e⟩, p.trans (swL_perm hi hcl), by rw [hn, swA_len], hs', c1⟩
    by_cases hA : l.length ≤ 2 * i + 1
    · refine ⟨l, at', ?_, List.Perm.refl _, rfl, hs, hd.stop fun j j0 j1 j2 => by omega⟩
      rw [L46b_0]
      simp only [e1]
      exact if_pos (by rw [decide_eq_true_eq]; exact Int.ofNat_le.2 hA)
    have hc1 : 2 * i + 1 < l.length := by omega
    have hy := hb _ (gi_mem hc1)
    by_cases hB : 2 * i + 1 + 1 < l.length
    · have hz := hb _ (gi_mem hB)
      cases hb2 : ahb all (gi l (2 * i + 1 + 1)) (gi l (2 * i + 1)) with
      | true =>
        obtain ⟨l', at2, hor, post⟩ := fin (2 * i + 1 + 1) (by omega) (by omega) hB fun j j0 j1 j2 => by
          by_cases e : j = 2 * i + 1 + 1
          · subst e; cases e3 : ahb all (gi l (2 * i + 1 + 1)) (gi l (2 * i + 1 + 1)) with
            | false => rfl
            | true => have := (ord_b all).asym _ _ e3; rw [e3] at this; exact this
          · have : j = 2 * i + 1 := by omega
            subst this; exact (ord_b all).asym _ _ hb2
        refine ⟨l', at2, ?_, post⟩
        rw [L46b_0]
        simp only [e1, e2, Int.toNat_natCast]
        refine (if_neg (by rw [decide_eq_true_eq]; exact fun h => hA (Int.ofNat_le.1 h))).trans ((if_pos (by rw [decide_eq_true_eq]; exact Int.ofNat_lt.2 hB)).trans ?_)
        refine (if_pos (inN hB)).trans ((if_pos hB).trans ((if_pos (inN hc1)).trans ((if_pos hc1).trans ?_)))
        refine bind_of (ahead_b hz hy) ?_
        dsimp only
        refine (if_pos hb2).trans ((if_pos (inN hB)).trans ((if_pos hB).trans ((if_pos (inN hi)).trans ((if_pos hi).trans ?_))))
        refine bind_of (ahead_b hz hx) ?_
        dsimp only
        rcases hor with ⟨ha, rfl, rfl⟩ | ⟨ha, e⟩
        · exact if_pos (by rw [ha]; rfl)
        · refine (if_neg (by rw [ha]; decide)).trans ?_
          refine bind_of (swap_b hi hB hs) ?_
          exact e
      | false =>
        obtain ⟨l', at2, hor, post⟩ := fin (2 * i + 1) (by omega) (by omega) hc1 fun j j0 j1 j2 => by
          by_cases e : j = 2 * i + 1
          · subst e; cases e3 : ahb all (gi l (2 * i + 1)) (gi l (2 * i + 1)) with
            | false => rfl
            | true => have := (ord_b all).asym _ _ e3; rw [e3] at this; exact this
          · have : j = 2 * i + 1 + 1 := by omega
            subst this; exact hb2
        refine ⟨l', at2, ?_, post⟩
        rw [L46b_0]
        simp only [e1, e2, Int.toNat_natCast]
        refine (if_neg (by rw [decide_eq_true_eq]; exact fun h => hA (Int.ofNat_le.1 h))).trans ((if_pos (by rw [decide_eq_true_eq]; exact Int.ofNat_lt.2 hB)).trans ?_)
        refine (if_pos (inN hB)).trans ((if_pos hB).trans ((if_pos (inN hc1)).trans ((if_pos hc1).trans ?_)))
        refine bind_of (ahead_b hz hy) ?_
        dsimp only
        refine (if_neg (by rw [hb2]; decide)).trans ((if_pos (inN hc1)).trans ((if_pos hc1).trans ((if_pos (inN hi)).trans ((if_pos hi).trans ?_))))
        refine bind_of (ahead_b hy hx) ?_
        dsimp only
        rcases hor with ⟨ha, rfl, rfl⟩ | ⟨ha, e⟩
        · exact if_pos (by rw [ha]; rfl)
        · refine (if_neg (by rw [ha]; decide)).trans ?_
          refine bind_of (swap_b hi hc1 hs) ?_
          exact e
    · obtain ⟨l', at2, hor, post⟩ := fin (2 * i + 1) (by omega) (by omega) hc1 fun j j0 j1 j2 => by
        have : j = 2 * i + 1 := by omega
        subst this; cases e3 : ahb all (gi l (2 * i + 1)) (gi l (2 * i + 1)) with
        | false => rfl
        | true => have := (ord_b all).asym _ _ e3; rw [e3] at this; exact this
      refine ⟨l', at2, ?_, post⟩
      rw [L46b_0]
      simp only [e1, e2, Int.toNat_natCast]
      refine (if_neg (by rw [decide_eq_true_eq]; exact fun h => hA (Int.ofNat_le.1 h))).trans ((if_neg (by rw [decide_eq_true_eq]; exact fun h => hB (Int.ofNat_lt.1 h))).trans ?_)
      refine (if_pos (inN hc1)).trans ((if_pos hc1).trans ((if_pos (inN hi)).trans ((if_pos hi).trans ?_)))
      refine bind_of (ahead_b hy hx) ?_
      dsimp only
      rcases hor with ⟨ha, rfl, rfl⟩ | ⟨ha, e⟩
      · exact if_pos (by rw [ha]; rfl)
      · refine (if_neg (by rw [ha]; decide)).trans ?_
        refine bind_of (swap_b hi hc1 hs) ?_
        exact e
theorem down_b {m t mk : Int} {md : Bool} {all : List Ent} {fr ol oa : List Int} {k i : Nat} {l at' : List Int} (hk : l.length < k + i) (hi : i < l.length) (hl : l.length < 1152921504606846976) (hs : Sd l at') (hb : Bd all l) (hd : ExD (ahb all) l i) :
    ∃ l' at2, F46b k ((), (i : Int), ()) (SS m t mk md all fr ol oa l at') = some ((), SS m t mk md all fr ol oa l' at2) ∧ l'.Perm l ∧ at2.length = at'.length ∧ Sd l' at2 ∧ Hp (ahb all) l' := by
  obtain ⟨l', at2, e, h⟩ := downl_b (m := m) (t := t) (mk := mk) (md := md) (fr := fr) (ol := ol) (oa := oa) k i l at' hk hi hl hs hb hd
  exact ⟨l', at2, by rw [F46b]; exact e, h⟩
theorem putl_b {m t mk : Int} {md : Bool} {all : List Ent} {fr ol oa : List Int} {K n : Nat} {l : List Int} (hK : l.length < K) (hl : l.length < 1000000000000) (hn : n < 1000000000000) (hb : Bd all l) (hna : n < all.length) (hm : (n : Int) ∉ l) (hh : Hp (ahb all) l) : ∀ (k : Nat) (at' : List Int), n + 1 < k + at'.length ∧ 0 < k → at'.length ≤ 1000000000000 → Sd l at' →
    ∃ l' at2, L27b_0 K k ((), (n : Int), ()) (SP m t mk md all fr ol oa l at') = some ((), SP m t mk md all fr ol oa l' at2) ∧ l'.Perm ((n : Int) :: l) ∧ at2.length = max at'.length (n + 1) ∧ Sd l' at2 ∧ Hp (ahb all) l'
  | 0, at', h, h2, hs => by omega
  | k + 1, at', h, h2, hs => by
    by_cases hg : at'.length ≤ n
    · obtain ⟨l', at2, e, p, hlen, r⟩ := putl_b hK hl hn hb hna hm hh k (at' ++ [0]) (by simp; omega) (by simp; omega) (sd_grow hs [0])
      refine ⟨l', at2, ?_, p, by rw [hlen]; simp; omega, r⟩
      rw [L27b_0]
      exact (if_pos (by rw [decide_eq_true_eq]; exact Int.ofNat_le.2 hg)).trans ((if_pos (by omega)).trans e)
    · have hn' : n < at'.length := by omega
      have hs' := sd_put hs hn' hm
      obtain ⟨l', at2, e, p, hlen, hs2, c1, _⟩ := up_b (m := m) (t := t) (mk := mk) (md := md) (fr := fr) (ol := ol) (oa := oa) (all := all) (k := K) (i := l.length) (l := l ++ [(n : Int)]) hK (by simp) (by simp; omega) hs'
        (fun x hx => (List.mem_append.1 hx).elim (fun h => hb x h) (fun h => by rw [List.mem_singleton.1 h]; omega))
      refine ⟨l', at2, ?_, p.trans (List.perm_append_singleton _ _), by rw [hlen, List.length_set]; omega, hs2, c1 (put_exU hh _)⟩
      rw [L27b_0]
      simp only [Int.toNat_natCast, List.length_set]
      have eg : List.getD (List.set at' n (l.length : Int)) n 0 = (l.length : Int) := by rw [show List.getD (List.set at' n (l.length : Int)) n 0 = gi (List.set at' n (l.length : Int)) n from rfl, gi_set hn', if_pos rfl]
      refine (if_neg (by rw [decide_eq_true_eq]; exact fun h => hg (Int.ofNat_le.1 h))).trans ((if_pos (inN hn')).trans ((if_pos hn').trans ((if_pos (by omega)).trans ((if_pos (inN hn')).trans ((if_pos hn').trans ?_)))))
      rw [eg]
      refine bind_of e ?_
      rfl
theorem put_b {m t mk : Int} {md : Bool} {all : List Ent} {fr ol oa : List Int} {K n : Nat} {l at' : List Int} (hK : l.length < K) (hKn : n + 1 < K) (hl : l.length < 1000000000000) (hn : n < 1000000000000) (hb : Bd all l) (hna : n < all.length) (hm : (n : Int) ∉ l) (hh : Hp (ahb all) l) (ha : at'.length ≤ 1000000000000) (hs : Sd l at') :
    ∃ l' at2, F27b K ((), (n : Int), ()) (SS m t mk md all fr ol oa l at') = some ((), SP m t mk md all fr ol oa l' at2) ∧ l'.Perm ((n : Int) :: l) ∧ at2.length = max at'.length (n + 1) ∧ Sd l' at2 ∧ Hp (ahb all) l' := by
  obtain ⟨l', at2, e, h⟩ := putl_b (m := m) (t := t) (mk := mk) (md := md) (fr := fr) (ol := ol) (oa := oa) hK hl hn hb hna hm hh K at' (by omega) ha hs
  exact ⟨l', at2, by rw [F27b]; exact e, h⟩
theorem out_b {m t mk : Int} {md : Bool} {all : List Ent} {fr ol oa : List Int} {K : Nat} {n : Int} {l at' : List Int} (hK : l.length < K) (hl : l.length < 1000000000000) (hb : Bd all l) (hm : n ∈ l) (hh : Hp (ahb all) l) (hs : Sd l at') :
    ∃ l' at2, F42b K ((), n, ()) (SS m t mk md all fr ol oa l at') = some ((), SP m t mk md all fr ol oa l' at2) ∧ l.Perm (n :: l') ∧ at2.length = at'.length ∧ Sd l' at2 ∧ Hp (ahb all) l' := by
  obtain ⟨i, hi, rfl⟩ := mem_gi hm
  obtain ⟨d0, d1, d2⟩ := hs i hi
  have hlast : l.length - 1 < l.length := by omega
  have ew : IntKind.wrap IntKind.i64 ((l.length : Int) - (1 : Int)) = ((l.length - 1 : Nat) : Int) := by rw [wi (by omega) (by omega)]; omega
  have hsw := sd_swap hi hlast hs
  have hp1 : (swL l i (l.length - 1)).Perm (gi l i :: (swL l i (l.length - 1)).take (l.length - 1)) := take_perm (by rw [swL_len]; omega) (by rw [swL_gi hi hlast, if_pos rfl])
  have hlen : ((swL l i (l.length - 1)).take (l.length - 1)).length = l.length - 1 := by rw [List.length_take, swL_len]; omega
  have hs2 := sd_take hsw (l.length - 1)
  have hb2 : Bd all ((swL l i (l.length - 1)).take (l.length - 1)) := fun x hx => hb.perm (swL_perm hi hlast) x (List.mem_of_mem_take hx)
  have hpl : l.Perm (gi l i :: (swL l i (l.length - 1)).take (l.length - 1)) := (swL_perm hi hlast).symm.trans hp1
  by_cases hil : i < l.length - 1
  · obtain ⟨l1, at1, e1, p1, n1, s1, _, c1⟩ := up_b (m := m) (t := t) (mk := mk) (md := md) (fr := fr) (ol := ol) (oa := oa) (all := all) (k := K) (i := i) (by omega) (by rw [hlen]; exact hil) (by omega) hs2 hb2
    have hd := c1 (out_exB (ord_b all) hh (by omega))
    have hl1 : l1.length = l.length - 1 := by rw [p1.length_eq, hlen]
    obtain ⟨l2, at2, e2, p2, n2, s2, c2⟩ := down_b (m := m) (t := t) (mk := mk) (md := md) (fr := fr) (ol := ol) (oa := oa) (all := all) (k := K) (i := i) (by omega) (by omega) (by omega) s1 (hb2.perm p1) hd
    refine ⟨l2, at2, ?_, hpl.trans ((p2.trans p1).symm.cons _), by rw [n2, n1, swA_len], s2, c2⟩
    rw [F42b]
    refine (if_pos (inR ⟨d0, d1⟩)).trans ((if_pos d1).trans ?_)
    simp only [ew]
    rw [show List.getD at' (gi l i).toNat 0 = (i : Int) from d2]
    refine bind_of (swap_b hi hlast hs) ?_
    dsimp only
    simp only [Int.toNat_natCast, Nat.sub_zero, List.drop_zero]
    refine (if_pos (show (0 : Int) ≤ ((l.length - 1 : Nat) : Int) ∧ ((l.length - 1 : Nat) : Int) ≤ ((swL l i (l.length - 1)).length : Int) from by rw [swL_len]; omega)).trans ((if_pos (by rw [decide_eq_true_eq]; exact Int.ofNat_lt.2 hil)).trans ?_)
    refine bind_of e1 ?_
    refine bind_of e2 ?_
    rfl
  · have hie : i = l.length - 1 := by omega
    refine ⟨(swL l i (l.length - 1)).take (l.length - 1), swA l at' i (l.length - 1), ?_, hpl, by rw [swA_len], hs2, ?_⟩
    · rw [F42b]
      refine (if_pos (inR ⟨d0, d1⟩)).trans ((if_pos d1).trans ?_)
      simp only [ew]
      rw [show List.getD at' (gi l i).toNat 0 = (i : Int) from d2]
      refine bind_of (swap_b hi hlast hs) ?_
      dsimp only
      simp only [Int.toNat_natCast, Nat.sub_zero, List.drop_zero]
      refine (if_pos (show (0 : Int) ≤ ((l.length - 1 : Nat) : Int) ∧ ((l.length - 1 : Nat) : Int) ≤ ((swL l i (l.length - 1)).length : Int) from by rw [swL_len]; omega)).trans ((if_neg (by rw [decide_eq_true_eq]; exact fun h => hil (Int.ofNat_lt.1 h))).trans ?_)
      rfl
    · have e : swL l i (l.length - 1) = l := by
        apply List.ext_getElem
        · rw [swL_len]
        · intro j h1 h2
          have := swL_gi hi hlast j
          simp only [gi, List.getD_eq_getElem?_getD, List.getElem?_eq_getElem h1, List.getElem?_eq_getElem h2, List.getElem?_eq_getElem hi, List.getElem?_eq_getElem hlast, Option.getD_some] at this
          rw [this]
          split
          · rename_i h; subst h; simp only [hie]
          · split
            · rename_i h; subst h; simp only [← hie]
            · rfl
      rw [e]; exact hh.take _
/-! the side w -/
theorem ahead_w {m t mk : Int} {md : Bool} {all : List Ent} {x y : Int} (hx : 0 ≤ x ∧ x.toNat < all.length) (hy : 0 ≤ y ∧ y.toNat < all.length) : F24 (x, y, (), ()) (RO m t mk md all) = some (ahw all x y, RO m t mk md all) := by
  rw [F24]
  refine (if_pos (inR hy)).trans ((if_pos hy.2).trans ((if_pos (inR hx)).trans ((if_pos hx.2).trans ?_)))
  refine bind_of (f23_ok _ _ _ _ _ _ _ _) ?_
  rfl
theorem swap_w {m t mk : Int} {md : Bool} {all : List Ent} {fr ol oa l at' : List Int} {i k : Nat} (hi : i < l.length) (hk : k < l.length) (h : Sd l at') :
    F45w ((), (i : Int), (k : Int), ()) (SS m t mk md all fr ol oa l at') = some ((), SS m t mk md all fr ol oa (swL l i k) (swA l at' i k)) := by
  rw [F45w]
  simp only [Int.toNat_natCast]
  have e : List.set (List.set l i (List.getD l k 0)) k (List.getD l i 0) = swL l i k := rfl
  simp only [e, List.length_set, swL_len]
  have b1 := sd_swap hi hk h i (by rw [swL_len]; exact hi)
  have b2 := sd_swap hi hk h k (by rw [swL_len]; exact hk)
  rw [swA_len] at b1 b2
  refine (if_pos (inN hk)).trans ((if_pos hk).trans ((if_pos (inN hi)).trans ((if_pos hi).trans ?_)))
  refine (if_pos (inN hi)).trans ((if_pos hi).trans ((if_pos (inN hk)).trans ((if_pos hk).trans ?_)))
  refine (if_pos (inN hi)).trans ((if_pos hi).trans ((if_pos (inN hk)).trans ((if_pos hk).trans ?_)))
  refine (if_pos (inR ⟨b1.1, b1.2.1⟩)).trans ((if_pos b1.2.1).trans ((if_pos (inR ⟨b2.1, b2.2.1⟩)).trans ((if_pos b2.2.1).trans ?_)))
  rfl
theorem upl_w {m t mk : Int} {md : Bool} {all : List Ent} {fr ol oa : List Int} : ∀ (k i : Nat) (l at' : List Int), i < k → i < l.length → l.length < 1152921504606846976 → Sd l at' → Bd all l →
    ∃ l' at2, L41w_0 k ((), (i : Int), ()) (SS m t mk md all fr ol oa l at') = some ((), SS m t mk md all fr ol oa l' at2) ∧ l'.Perm l ∧ at2.length = at'.length ∧ Sd l' at2 ∧
      (ExU (ahw all) l i → Hp (ahw all) l') ∧ (ExB (ahw all) l i → ExD (ahw all) l' i)
  | 0, i, l, at', h, _, _, _, _ => by omega
  | k + 1, i, l, at', hk, hi, hl, hs, hb => by
    by_cases h0 : i = 0
    · subst h0
      refine ⟨l, at', ?_, List.Perm.refl _, rfl, hs, fun h => h.stop fun h => absurd h (by omega), fun h => h.stop fun h => absurd h (by omega)⟩
      rw [L41w_0]; exact if_neg (by decide)
    · have h0 : 0 < i := by omega
      have hp : (i - 1) / 2 < l.length := by omega
      have hw := tdiv2 h0 (by omega)
      have hx := hb _ (gi_mem hi); have hy := hb _ (gi_mem hp)
      cases ha : ahw all (gi l i) (gi l ((i - 1) / 2)) with
      | false =>
        refine ⟨l, at', ?_, List.Perm.refl _, rfl, hs, fun h => h.stop fun _ => ha, fun h => h.stop fun _ => ha⟩
        rw [L41w_0]
        refine (if_pos (by rw [decide_eq_true_eq]; omega)).trans ?_
        simp only [hw, Int.toNat_natCast]
        refine (if_pos (inN hi)).trans ((if_pos hi).trans ((if_pos (inN hp)).trans ((if_pos hp).trans ?_)))
        refine bind_of (ahead_w hx hy) ?_
        dsimp only
        exact if_neg (by rw [ha]; decide)
      | true =>
        obtain ⟨l', at2, e, p, hn, hs', c1, c2⟩ := upl_w k ((i - 1) / 2) (swL l i ((i - 1) / 2)) (swA l at' i ((i - 1) / 2)) (by omega) (by rw [swL_len]; exact hp) (by rw [swL_len]; exact hl) (sd_swap hi hp hs) (hb.perm (swL_perm hi hp))
        refine ⟨l', at2, ?_, p.trans (swL_perm hi hp), by rw [hn, swA_len], hs', fun h => c1 (up_step (ord_w all) hi h0 h.exB ha), fun h => (c1 (up_step (ord_w all) hi h0 h ha)).exD (ord_w all) i⟩
        rw [L41w_0]
        refine (if_pos (by rw [decide_eq_true_eq]; omega)).trans ?_
        simp only [hw, Int.toNat_natCast]
        refine (if_pos (inN hi)).trans ((if_pos hi).trans ((if_pos (inN hp)).trans ((if_pos hp).trans ?_)))
        refine bind_of (ahead_w hx hy) ?_
        dsimp only
        refine (if_pos ha).trans ?_
        refine bind_of (swap_w hi hp hs) ?_
        exact e
theorem up_w {m t mk : Int} {md : Bool} {all : List Ent} {fr ol oa : List Int} {k i : Nat} {l at' : List Int} (hk : i < k) (hi : i < l.length) (hl : l.length < 1152921504606846976) (hs : Sd l at') (hb : Bd all l) :
    ∃ l' at2, F41w k ((), (i : Int), ()) (SS m t mk md all fr ol oa l at') = some ((), SS m t mk md all fr ol oa l' at2) ∧ l'.Perm l ∧ at2.length = at'.length ∧ Sd l' at2 ∧
      (ExU (ahw all) l i → Hp (ahw all) l') ∧ (ExB (ahw all) l i → ExD (ahw all) l' i) := by
  obtain ⟨l', at2, e, h⟩ := upl_w (m := m) (t := t) (mk := mk) (md := md) (fr := fr) (ol := ol) (oa := oa) k i l at' hk hi hl hs hb
  exact ⟨l', at2, by rw [F41w]; exact e, h⟩
theorem downl_w {m t mk : Int} {md : Bool} {all : List Ent} {fr ol oa : List Int} : ∀ (k i : Nat) (l at' : List Int), l.length < k + i → i < l.length → l.length < 1152921504606846976 → Sd l at' → Bd all l → ExD (ahw all) l i →
    ∃ l' at2, L46w_0 k ((), (i : Int), ()) (SS m t mk md all fr ol oa l at') = some ((), SS m t mk md all fr ol oa l' at2) ∧ l'.Perm l ∧ at2.length = at'.length ∧ Sd l' at2 ∧ Hp (ahw all) l'
  | 0, i, l, at', h, h2, _, _, _, _ => by omega
  | k + 1, i, l, at', hk, hi, hl, hs, hb, hd => by
    have hx := hb _ (gi_mem hi)
    have e1 := dbl1 (i := i) (by omega)
    have e2 : IntKind.wrap IntKind.i64 (((2 * i + 1 : Nat) : Int) + (1 : Int)) = ((2 * i + 1 + 1 : Nat) : Int) := add1 (by omega)
    have fin : ∀ c, 0 < c → (c - 1) / 2 = i → c < l.length → (∀ j, 0 < j → j < l.length → (j - 1) / 2 = i → ahw all (gi l j) (gi l c) = false) →
        ∃ l' at2, (ahw all (gi l c) (gi l i) = false ∧ l' = l ∧ at2 = at' ∨ ahw all (gi l c) (gi l i) = true ∧ L46w_0 k ((), (c : Int), ()) (SS m t mk md all fr ol oa (swL l i c) (swA l at' i c)) = some ((), SS m t mk md all fr ol oa l' at2)) ∧
          l'.Perm l ∧ at2.length = at'.length ∧ Sd l' at2 ∧ Hp (ahw all) l' := by
      intro c h0 hc hcl hm
      cases ha : ahw all (gi l c) (gi l i) with
      | false => exact ⟨l, at', .inl ⟨rfl, rfl, rfl⟩, List.Perm.refl _, rfl, hs, hd.stop fun j j0 j1 j2 => by unfold okP; rw [j2]; exact (ord_w all).neg _ _ _ (hm j j0 j1 j2) ha⟩
      | true =>
        obtain ⟨l', at2, e, p, hn, hs', c1⟩ := downl_w k c (swL l i c) (swA l at' i c) (by rw [swL_len]; omega) (by rw [swL_len]; exact hcl) (by rw [swL_len]; exact hl) (sd_swap hi hcl hs) (hb.perm (swL_perm hi hcl)) (down_step (ord_w all) hcl h0 hc hd hm ha)
        exact ⟨l', at2, .inr ⟨rfl, e⟩, p.trans (swL_perm hi hcl), by rw [hn, swA_len], hs', c1⟩
    by_cases hA : l.length ≤ 2 * i + 1
    · refine ⟨l, at', ?_, List.Perm.refl _, rfl, hs, hd.stop fun j j0 j1 j2 => by omega⟩
      rw [L46w_0]
      simp only [e1]
      exact if_pos (by rw [decide_eq_true_eq]; exact Int.ofNat_le.2 hA)
    have hc1 : 2 * i + 1 < l.length := by omega
    have hy := hb _ (gi_mem hc1)
    by_cases hB : 2 * i + 1 + 1 < l.length
    · have hz := hb _ (gi_mem hB)
      cases hb2 : ahw all (gi l (2 * i + 1 + 1)) (gi l (2 * i + 1)) with
      | true =>
        obtain ⟨l', at2, hor, post⟩ := fin (2 * i + 1 + 1) (by omega) (by omega) hB fun j j0 j1 j2 => by
          by_cases e : j = 2 * i + 1 + 1
          · subst e; cases e3 : ahw all (gi l (2 * i + 1 + 1)) (gi l (2 * i + 1 + 1)) with
            | false => rfl
            | true => have := (ord_w all).asym _ _ e3; rw [e3] at this; exact this
          · have : j = 2 * i + 1 := by omega
            subst this; exact (ord_w all).asym _ _ hb2
        refine ⟨l', at2, ?_, post⟩
        rw [L46w_0]
        simp only [e1, e2, Int.toNat_natCast]
        refine (if_neg (by rw [decide_eq_true_eq]; exact fun h => hA (Int.ofNat_le.1 h))).trans ((if_pos (by rw [decide_eq_true_eq]; exact Int.ofNat_lt.2 hB)).trans ?_)
        refine (if_pos (inN hB)).trans ((if_pos hB).trans ((if_pos (inN hc1)).trans ((if_pos hc1).trans ?_)))
        refine bind_of (ahead_w hz hy) ?_
        dsimp only
        refine (if_pos hb2).trans ((if_pos (inN hB)).trans ((if_pos hB).trans ((if_pos (inN hi)).trans ((if_pos hi).trans ?_))))
        refine bind_of (ahead_w hz hx) ?_
        dsimp only
        rcases hor with ⟨ha, rfl, rfl⟩ | ⟨ha, e⟩
        · exact if_pos (by rw [ha]; rfl)
        · refine (if_neg (by rw [ha]; decide)).trans ?_
          refine bind_of (swap_w hi hB hs) ?_
          exact e
      | false =>
        obtain ⟨l', at2, hor, post⟩ := fin (2 * i + 1) (by omega) (by omega) hc1 fun j j0 j1 j2 => by
          by_cases e : j = 2 * i + 1
          · subst e; cases e3 : ahw all (gi l (2 * i + 1)) (gi l (2 * i + 1)) with
            | false => rfl
            | true => have := (ord_w all).asym _ _ e3; rw [e3] at this; exact this
          · have : j = 2 * i + 1 + 1 := by omega
            subst this; exact hb2
        refine ⟨l', at2, ?_, post⟩
        rw [L46w_0]
        simp only [e1, e2, Int.toNat_natCast]
        refine (if_neg (by rw [decide_eq_true_eq]; exact fun h => hA (Int.ofNat_le.1 h))).trans ((if_pos (by rw [decide_eq_true_eq]; exact Int.ofNat_lt.2 hB)).trans ?_)
        refine (if_pos (inN hB)).trans ((if_pos hB).trans ((if_pos (inN hc1)).trans ((if_pos hc1).trans ?_)))
        refine bind_of (ahead_w hz hy) ?_
        dsimp only
        refine (if_neg (by rw [hb2]; decide)).trans ((if_pos (inN hc1)).trans ((if_pos hc1).trans ((if_pos (inN hi)).trans ((if_pos hi).trans ?_))))
        refine bind_of (ahead_w hy hx) ?_
        dsimp only
        rcases hor with ⟨ha, rfl, rfl⟩ | ⟨ha, e⟩
        · exact if_pos (by rw [ha]; rfl)
        · refine (if_neg (by rw [ha]; decide)).trans ?_
          refine bind_of (swap_w hi hc1 hs) ?_
          exact e
    · obtain ⟨l', at2, hor, post⟩ := fin (2 * i + 1) (by omega) (by omega) hc1 fun j j0 j1 j2 => by
        have : j = 2 * i + 1 := by omega
        subst this; cases e3 : ahw all (gi l (2 * i + 1)) (gi l (2 * i + 1)) with
        | false => rfl
        | true => have := (ord_w all).asym _ _ e3; rw [e3] at this; exact this
      refine ⟨l', at2, ?_, post⟩
      rw [L46w_0]
      simp only [e1, e2, Int.toNat_natCast]
      refine (if_neg (by rw [decide_eq_true_eq]; exact fun h => hA (Int.ofNat_le.1 h))).trans ((if_neg (by rw [decide_eq_true_eq]; exact fun h => hB (Int.ofNat_lt.1 h))).trans ?_)
      refine (if_pos (inN hc1)).trans ((if_pos hc1).trans ((if_pos (inN hi)).trans ((if_pos hi).trans ?_)))
      refine bind_of (ahead_w hy hx) ?_
      dsimp only
      rcases hor with ⟨ha, rfl, rfl⟩ | ⟨ha, e⟩
      · exact if_pos (by rw [ha]; rfl)
      · refine (if_neg (by rw [ha]; decide)).trans ?_
        refine bind_of (swap_w hi hc1 hs) ?_
        exact e
theorem down_w {m t mk : Int} {md : Bool} {all : List Ent} {fr ol oa : List Int} {k i : Nat} {l at' : List Int} (hk : l.length < k + i) (hi : i < l.length) (hl : l.length < 1152921504606846976) (hs : Sd l at') (hb : Bd all l) (hd : ExD (ahw all) l i) :
    ∃ l' at2, F46w k ((), (i : Int), ()) (SS m t mk md all fr ol oa l at') = some ((), SS m t mk md all fr ol oa l' at2) ∧ l'.Perm l ∧ at2.length = at'.length ∧ Sd l' at2 ∧ Hp (ahw all) l' := by
  obtain ⟨l', at2, e, h⟩ := downl_w (m := m) (t := t) (mk := mk) (md := md) (fr := fr) (ol := ol) (oa := oa) k i l at' hk hi hl hs hb hd
  exact ⟨l', at2, by rw [F46w]; exact e, h⟩
theorem putl_w {m t mk : Int} {md : Bool} {all : List Ent} {fr ol oa : List Int} {K n : Nat} {l : List Int} (hK : l.length < K) (hl : l.length < 1000000000000) (hn : n < 1000000000000) (hb : Bd all l) (hna : n < all.length) (hm : (n : Int) ∉ l) (hh : Hp (ahw all) l) : ∀ (k : Nat) (at' : List Int), n + 1 < k + at'.length ∧ 0 < k → at'.length ≤ 1000000000000 → Sd l at' →
    ∃ l' at2, L27w_0 K k ((), (n : Int), ()) (SP m t mk md all fr ol oa l at') = some ((), SP m t mk md all fr ol oa l' at2) ∧ l'.Perm ((n : Int) :: l) ∧ at2.length = max at'.length (n + 1) ∧ Sd l' at2 ∧ Hp (ahw all) l'
  | 0, at', h, h2, hs => by omega
  | k + 1, at', h, h2, hs => by
    by_cases hg : at'.length ≤ n
    · obtain ⟨l', at2, e, p, hlen, r⟩ := putl_w hK hl hn hb hna hm hh k (at' ++ [0]) (by simp; omega) (by simp; omega) (sd_grow hs [0])
      refine ⟨l', at2, ?_, p, by rw [hlen]; simp; omega, r⟩
      rw [L27w_0]
      exact (if_pos (by rw [decide_eq_true_eq]; exact Int.ofNat_le.2 hg)).trans ((if_pos (by omega)).trans e)
    · have hn' : n < at'.length := by omega
      have hs' := sd_put hs hn' hm
      obtain ⟨l', at2, e, p, hlen, hs2, c1, _⟩ := up_w (m := m) (t := t) (mk := mk) (md := md) (fr := fr) (ol := ol) (oa := oa) (all := all) (k := K) (i := l.length) (l := l ++ [(n : Int)]) hK (by simp) (by simp; omega) hs'
        (fun x hx => (List.mem_append.1 hx).elim (fun h => hb x h) (fun h => by rw [List.mem_singleton.1 h]; omega))
      refine ⟨l', at2, ?_, p.trans (List.perm_append_singleton _ _), by rw [hlen, List.length_set]; omega, hs2, c1 (put_exU hh _)⟩
      rw [L27w_0]
      simp only [Int.toNat_natCast, List.length_set]
      have eg : List.getD (List.set at' n (l.length : Int)) n 0 = (l.length : Int) := by rw [show List.getD (List.set at' n (l.length : Int)) n 0 = gi (List.set at' n (l.length : Int)) n from rfl, gi_set hn', if_pos rfl]
      refine (if_neg (by rw [decide_eq_true_eq]; exact fun h => hg (Int.ofNat_le.1 h))).trans ((if_pos (inN hn')).trans ((if_pos hn').trans ((if_pos (by omega)).trans ((if_pos (inN hn')).trans ((if_pos hn').trans ?_)))))
      rw [eg]
      refine bind_of e ?_
      rfl
theorem put_w {m t mk : Int} {md : Bool} {all : List Ent} {fr ol oa : List Int} {K n : Nat} {l at' : List Int} (hK : l.length < K) (hKn : n + 1 < K) (hl : l.length < 1000000000000) (hn : n < 1000000000000) (hb : Bd all l) (hna : n < all.length) (hm : (n : Int) ∉ l) (hh : Hp (ahw all) l) (ha : at'.length ≤ 1000000000000) (hs : Sd l at') :
    ∃ l' at2, F27w K ((), (n : Int), ()) (SS m t mk md all fr ol oa l at') = some ((), SP m t mk md all fr ol oa l' at2) ∧ l'.Perm ((n : Int) :: l) ∧ at2.length = max at'.length (n + 1) ∧ Sd l' at2 ∧ Hp (ahw all) l' := by
  obtain ⟨l', at2, e, h⟩ := putl_w (m := m) (t := t) (mk := mk) (md := md) (fr := fr) (ol := ol) (oa := oa) hK hl hn hb hna hm hh K at' (by omega) ha hs
  exact ⟨l', at2, by rw [F27w]; exact e, h⟩
theorem out_w {m t mk : Int} {md : Bool} {all : List Ent} {fr ol oa : List Int} {K : Nat} {n : Int} {l at' : List Int} (hK : l.length < K) (hl : l.length < 1000000000000) (hb : Bd all l) (hm : n ∈ l) (hh : Hp (ahw all) l) (hs : Sd l at') :
    ∃ l' at2, F42w K ((), n, ()) (SS m t mk md all fr ol oa l at') = some ((), SP m t mk md all fr ol oa l' at2) ∧ l.Perm (n :: l') ∧ at2.length = at'.length ∧ Sd l' at2 ∧ Hp (ahw all) l' := by
  obtain ⟨i, hi, rfl⟩ := mem_gi hm
  obtain ⟨d0, d1, d2⟩ := hs i hi
  have hlast : l.length - 1 < l.length := by omega
  have ew : IntKind.wrap IntKind.i64 ((l.length : Int) - (1 : Int)) = ((l.length - 1 : Nat) : Int) := by rw [wi (by omega) (by omega)]; omega
  have hsw := sd_swap hi hlast hs
  have hp1 : (swL l i (l.length - 1)).Perm (gi l i :: (swL l i (l.length - 1)).take (l.length - 1)) := take_perm (by rw [swL_len]; omega) (by rw [swL_gi hi hlast, if_pos rfl])
  have hlen : ((swL l i (l.length - 1)).take (l.length - 1)).length = l.length - 1 := by rw [List.length_take, swL_len]; omega
  have hs2 := sd_take hsw (l.length - 1)
  have hb2 : Bd all ((swL l i (l.length - 1)).take (l.length - 1)) := fun x hx => hb.perm (swL_perm hi hlast) x (List.mem_of_mem_take hx)
  have hpl : l.Perm (gi l i :: (swL l i (l.length - 1)).take (l.length - 1)) := (swL_perm hi hlast).symm.trans hp1
  by_cases hil : i < l.length - 1
  · obtain ⟨l1, at1, e1, p1, n1, s1, _, c1⟩ := up_w (m := m) (t := t) (mk := mk) (md := md) (fr := fr) (ol := ol) (oa := oa) (all := all) (k := K) (i := i) (by omega) (by rw [hlen]; exact hil) (by omega) hs2 hb2
    have hd := c1 (out_exB (ord_w all) hh (by omega))
    have hl1 : l1.length = l.length - 1 := by rw [p1.length_eq, hlen]
    obtain ⟨l2, at2, e2, p2, n2, s2, c2⟩ := down_w (m := m) (t := t) (mk := mk) (md := md) (fr := fr) (ol := ol) (oa := oa) (all := all) (k := K) (i := i) (by omega) (by omega) (by omega) s1 (hb2.perm p1) hd
    refine ⟨l2, at2, ?_, hpl.trans ((p2.trans p1).symm.cons _), by rw [n2, n1, swA_len], s2, c2⟩
    rw [F42w]
    refine (if_pos (inR ⟨d0, d1⟩)).trans ((if_pos d1).trans ?_)
    simp only [ew]
    rw [show List.getD at' (gi l i).toNat 0 = (i : Int) from d2]
    refine bind_of (swap_w hi hlast hs) ?_
    dsimp only
    simp only [Int.toNat_natCast, Nat.sub_zero, List.drop_zero]
    refine (if_pos (show (0 : Int) ≤ ((l.length - 1 : Nat) : Int) ∧ ((l.length - 1 : Nat) : Int) ≤ ((swL l i (l.length - 1)).length : Int) from by rw [swL_len]; omega)).trans ((if_pos (by rw [decide_eq_true_eq]; exact Int.ofNat_lt.2 hil)).trans ?_)
    refine bind_of e1 ?_
    refine bind_of e2 ?_
    rfl
  · have hie : i = l.length - 1 := by omega
    refine ⟨(swL l i (l.length - 1)).take (l.length - 1), swA l at' i (l.length - 1), ?_, hpl, by rw [swA_len], hs2, ?_⟩
    · rw [F42w]
      refine (if_pos (inR ⟨d0, d1⟩)).trans ((if_pos d1).trans ?_)
      simp only [ew]
      rw [show List.getD at' (gi l i).toNat 0 = (i : Int) from d2]
      refine bind_of (swap_w hi hlast hs) ?_
      dsimp only
      simp only [Int.toNat_natCast, Nat.sub_zero, List.drop_zero]
      refine (if_pos (show (0 : Int) ≤ ((l.length - 1 : Nat) : Int) ∧ ((l.length - 1 : Nat) : Int) ≤ ((swL l i (l.length - 1)).length : Int) from by rw [swL_len]; omega)).trans ((if_neg (by rw [decide_eq_true_eq]; exact fun h => hil (Int.ofNat_lt.1 h))).trans ?_)
      rfl
    · have e : swL l i (l.length - 1) = l := by
        apply List.ext_getElem
        · rw [swL_len]
        · intro j h1 h2
          have := swL_gi hi hlast j
          simp only [gi, List.getD_eq_getElem?_getD, List.getElem?_eq_getElem h1, List.getElem?_eq_getElem h2, List.getElem?_eq_getElem hi, List.getElem?_eq_getElem hlast, Option.getD_some] at this
          rw [this]
          split
          · rename_i h; subst h; simp only [hie]
          · split
            · rename_i h; subst h; simp only [← hie]
            · rfl
      rw [e]; exact hh.take _
end Go.Eng.He

/- The heap's own functions. No condition. -/
set_option linter.unusedVariables false
namespace Go.Eng.He
open Go Go.Eng Go.Proofs
abbrev HMo : List OP := match alts13 with
  | (_, o) :: _ => o
  | [] => []
structure HS where
  m : Int
  t : Int
  k : Int
  md : Bool
  all : List Ent
  fr : List Int
  bl : List Int
  ba : List Int
  wl : List Int
  wa : List Int
abbrev HS.O (s : HS) : OPL.T os12 := ((s.m, (), (), (), (), s.t, s.k, s.md, ()), s.all, s.fr, (((), ()), (), (), ()), ((), ()), s.bl, s.ba, (((), ()), (), (), ()), s.wl, s.wa, ())
abbrev HS.M (s : HS) : OPL.T HMo := ((s.m, (), (), (), (), s.t, s.k, s.md, ()), (), (), (((), ()), (), (), ()), ((), ()), (), (), (((), ()), (), (), ()), (), (), s.all, s.fr, s.bl, s.ba, s.wl, s.wa, ())
structure Inv (s : HS) : Prop where
  sb : Sd s.bl s.ba
  sw : Sd s.wl s.wa
  hb : Hp (ahb s.all) s.bl
  hw : Hp (ahw s.all) s.wl
  pw : s.wl.Perm s.bl
  nd : (s.bl ++ s.fr).Nodup
  bd : Bd s.all (s.bl ++ s.fr)
  cnt : s.all.length = s.bl.length + s.fr.length
  lb : s.ba.length ≤ s.all.length
  lw : s.wa.length ≤ s.all.length
  cap : (s.all.length : Int) ≤ s.m + 1
  mhi : s.m ≤ 65536
def live (s : HS) : List Ent := s.bl.map (en s.all)
theorem Bd.left {all : List Ent} {l r : List Int} (h : Bd all (l ++ r)) : Bd all l := fun x hx => h x (List.mem_append_left _ hx)
theorem len_ok (s : HS) : F14 ((), ()) s.O = some ((s.bl.length : Int), s.O) := rfl
theorem mark_ok (s : HS) : F17 ((), ()) s.O = some ((s.k, s.md, ()), s.O) := rfl
theorem take_ok {K : Nat} {s : HS} {n : Int} (hI : Inv s) (hn : n ∈ s.bl) (hK : s.bl.length < K) :
    ∃ s', F28 K ((), n, ()) s.O = some (((en s.all n).1, (en s.all n).2.1, (en s.all n).2.2.1, ()), s'.M) ∧ Inv s' ∧ s'.all = s.all ∧ s.bl.Perm (n :: s'.bl) ∧ s'.m = s.m ∧ s'.t = s.t ∧ s'.k = s.k ∧ s'.md = s.md := by
  obtain ⟨m, t, mk, md, all, fr, bl, ba, wl, wa⟩ := s
  obtain ⟨sb, sw, hb, hw, pw, nd, bd, cnt, lb, lw, cap, mhi⟩ := hI
  simp only at *
  obtain ⟨l1, a1, e1, p1, n1, s1, c1⟩ := out_b (m := m) (t := t) (mk := mk) (md := md) (fr := fr) (ol := wl) (oa := wa) hK (by omega) bd.left hn hb sb
  have hl1 := pw.length_eq
  obtain ⟨l2, a2, e2, p2, n2, s2, c2⟩ := out_w (K := K) (m := m) (t := t) (mk := mk) (md := md) (fr := fr) (ol := l1) (oa := a1) (by omega) (by omega) (bd.left.perm pw) (pw.mem_iff.2 hn) hw sw
  have hb1 := bd n (List.mem_append_left _ hn)
  have hp : (l1 ++ (fr ++ [n])).Perm (bl ++ fr) := by
    refine List.Perm.trans ?_ (p1.symm.append_right fr)
    rw [← List.append_assoc]
    exact List.perm_append_singleton _ _
  have hlen : bl.length = l1.length + 1 := by rw [p1.length_eq]; rfl
  refine ⟨⟨m, t, mk, md, all, fr ++ [n], l1, a1, l2, a2⟩, ?_, ⟨s1, s2, c1, c2, (p2.symm.trans (pw.trans p1)).cons_inv, hp.nodup_iff.2 nd, bd.perm hp, by simp; omega, by simp only; omega, by simp only; omega, cap, mhi⟩, rfl, p1, rfl, rfl, rfl, rfl⟩
  rw [F28]
  refine bind_of e1 ?_
  refine bind_of e2 ?_
  refine (if_pos (show (fr.length + 1) * 8 ≤ 140737488355328 by omega)).trans ((if_pos (inR hb1)).trans ((if_pos hb1.2).trans ?_))
  rfl
theorem root_b {s : HS} (hI : Inv s) {x : Int} (h0 : 0 < s.bl.length) (hx : x ∈ s.bl) : btr (en s.all x) (en s.all (gi s.bl 0)) = false := by
  obtain ⟨j, hj, rfl⟩ := mem_gi hx
  exact hI.hb.root (ord_b _) j hj
theorem root_w {s : HS} (hI : Inv s) {x : Int} (h0 : 0 < s.bl.length) (hx : x ∈ s.bl) : btr (en s.all (gi s.wl 0)) (en s.all x) = false := by
  obtain ⟨j, hj, rfl⟩ := mem_gi (hI.pw.mem_iff.2 hx)
  exact hI.hw.root (ord_w _) j hj
theorem live_perm {s s' : HS} {n : Int} (ha : s'.all = s.all) (hp : s.bl.Perm (n :: s'.bl)) : (live s).Perm (en s.all n :: live s') := by
  unfold live; rw [ha]; exact hp.map _
/-- The best one goes. -/
theorem pop_ok {K : Nat} {s : HS} (hI : Inv s) (hK : s.bl.length < K) :
    (s.bl = [] ∧ F13 K ((), ()) s.O = some (((0, 0, 0, ()), false, ()), s.M)) ∨
    ∃ s' d, F13 K ((), ()) s.O = some (((d.1, d.2.1, d.2.2.1, ()), true, ()), s'.M) ∧ Inv s' ∧ (live s).Perm (d :: live s') ∧ (∀ e ∈ live s, btr e d = false) ∧ s'.m = s.m ∧ s'.t = s.t ∧ s'.k = s.k ∧ s'.md = s.md := by
  by_cases h0 : s.bl.length = 0
  · refine .inl ⟨List.eq_nil_of_length_eq_zero h0, ?_⟩
    rw [F13]
    refine bind_of (len_ok s) ?_
    exact if_pos (by rw [decide_eq_true_eq]; exact congrArg Nat.cast h0)
  · have h0 : 0 < s.bl.length := by omega
    obtain ⟨s', e, hI', ha, hp, r⟩ := take_ok hI (gi_mem h0) hK
    refine .inr ⟨s', en s.all (gi s.bl 0), ?_, hI', live_perm ha hp, ?_, r⟩
    · rw [F13]
      refine bind_of (len_ok s) ?_
      refine (if_neg (by rw [decide_eq_true_eq]; intro h; exact absurd (show (s.bl.length : Int) = 0 from h) (by omega))).trans ((if_pos (inN h0)).trans ((if_pos h0).trans ?_))
      refine bind_of e ?_
      rfl
    · intro e he
      obtain ⟨x, hx, rfl⟩ := List.mem_map.1 he
      exact root_b hI h0 hx
/-- The worst one is told. -/
theorem worst_ok {s : HS} (hI : Inv s) (h0 : 0 < s.bl.length) : ∃ w ∈ live s, F15 ((), ()) s.O = some (((w.1, w.2.1, w.2.2.1, ()), true, ()), s.O) := by
  have h1 : 0 < s.wl.length := by rw [hI.pw.length_eq]; exact h0
  have hm : gi s.wl 0 ∈ s.bl := hI.pw.mem_iff.1 (gi_mem h1)
  have hb := hI.bd _ (List.mem_append_left _ hm)
  refine ⟨en s.all (gi s.wl 0), List.mem_map.2 ⟨_, hm, rfl⟩, ?_⟩
  rw [F15]
  refine bind_of (len_ok s) ?_
  refine (if_neg (by rw [decide_eq_true_eq]; intro h; exact absurd (show (s.bl.length : Int) = 0 from h) (by omega))).trans ((if_pos (inN h1)).trans ((if_pos h1).trans ((if_pos (inR hb)).trans ((if_pos hb.2).trans ?_))))
  rfl
theorem Hp.congr {ah ah2 : Int → Int → Bool} {l : List Int} (h : Hp ah l) (hc : ∀ x ∈ l, ∀ y ∈ l, ah2 x y = ah x y) : Hp ah2 l := by
  intro j h0 h1
  unfold okP
  rw [hc _ (gi_mem h1) _ (gi_mem (by omega))]
  exact h j h0 h1
/-- Where a new one goes. -/
theorem place {s : HS} (hI : Inv s) (hl : (s.bl.length : Int) ≤ s.m) (e : Ent) : ∃ (n : Nat) (all1 : List Ent) (fr1 : List Int),
    (s.fr.length = 0 ∧ n = s.all.length ∧ all1 = s.all ++ [e] ∧ fr1 = s.fr ∨ 0 < s.fr.length ∧ (n : Int) = gi s.fr (s.fr.length - 1) ∧ n < s.all.length ∧ all1 = s.all.set n e ∧ fr1 = s.fr.take (s.fr.length - 1)) ∧
    ((n : Int) :: (s.bl ++ fr1)).Nodup ∧ Bd all1 ((n : Int) :: (s.bl ++ fr1)) ∧ (∀ x ∈ s.bl, en all1 x = en s.all x) ∧ en all1 n = e ∧ all1.length = s.bl.length + 1 + fr1.length ∧ s.all.length ≤ all1.length ∧ (all1.length : Int) ≤ s.m + 1 := by
  obtain ⟨m, t, mk, md, all, fr, bl, ba, wl, wa⟩ := s
  obtain ⟨sb, sw, hb, hw, pw, nd, bd, cnt, lb, lw, cap, mhi⟩ := hI
  simp only at *
  by_cases h0 : fr.length = 0
  · have : fr = [] := List.eq_nil_of_length_eq_zero h0
    subst this
    refine ⟨all.length, all ++ [e], [], .inl ⟨rfl, rfl, rfl, rfl⟩, ?_, ?_, ?_, ?_, by simp at *; omega, by simp, by simp at *; omega⟩
    · refine List.nodup_cons.2 ⟨fun h => ?_, nd⟩
      have := bd _ h
      omega
    · intro x hx
      rw [List.length_append, List.length_singleton]
      rcases List.mem_cons.1 hx with h | h
      · omega
      · have := bd x h; omega
    · intro x hx
      have := bd x (List.mem_append_left _ hx)
      simp only [en, List.getD_eq_getElem?_getD, List.getElem?_append_left this.2]
    · simp [en, List.getD_eq_getElem?_getD]
  · have h0 : 0 < fr.length := by omega
    have hp := take_perm (l := fr) (m := fr.length - 1) (n := gi fr (fr.length - 1)) (by omega) rfl
    have hb1 := bd _ (List.mem_append_right bl (gi_mem (l := fr) (i := fr.length - 1) (by omega)))
    obtain ⟨n, hn⟩ : ∃ n : Nat, (n : Int) = gi fr (fr.length - 1) := ⟨(gi fr (fr.length - 1)).toNat, by omega⟩
    rw [← hn] at hp hb1
    rw [Int.toNat_natCast] at hb1
    have hq : ((n : Int) :: (bl ++ fr.take (fr.length - 1))).Perm (bl ++ fr) := List.perm_middle.symm.trans (hp.symm.append_left bl)
    have hnd := hq.nodup_iff.2 nd
    refine ⟨n, all.set n e, fr.take (fr.length - 1), .inr ⟨h0, hn, hb1.2, rfl, rfl⟩, hnd, ?_, ?_, ?_, by rw [List.length_set, List.length_take]; omega, by rw [List.length_set]; omega, by rw [List.length_set]; exact cap⟩
    · intro x hx
      rw [List.length_set]
      exact bd.perm hq x hx
    · intro x hx
      have h1 := bd x (List.mem_append_left _ hx)
      have : x.toNat ≠ n := by
        intro h
        refine (List.nodup_cons.1 hnd).1 (List.mem_append_left _ ?_)
        rwa [show (n : Int) = x by omega]
      simp only [en, List.getD_eq_getElem?_getD, List.getElem?_set]
      rw [if_neg (Ne.symm this)]
    · simp [en, List.getD_eq_getElem?_getD, List.getElem?_set, hb1.2]
end Go.Eng.He

/- Put. No condition. -/
set_option linter.unusedVariables false
namespace Go.Eng.He
open Go Go.Eng Go.Proofs
def newE (s : HS) (x1 x2 x3 : Int) : Ent := (x1, x2, x3, IntKind.wrap IntKind.u64 (s.t + 1))
theorem put_ok {K : Nat} {s : HS} (hI : Inv s) (hl : (s.bl.length : Int) ≤ s.m) (x1 x2 x3 : Int) (hK : 200000 < K) :
    ∃ s', ((s.bl.length : Int) < s.m ∧ F12 K ((), (x1, x2, x3, ()), ()) s.O = some (((0, 0, 0, ()), false, 0, ()), s'.M) ∧ (live s').Perm (newE s x1 x2 x3 :: live s) ∧ s'.k = s.k ∧ s'.md = s.md ∨
      (s.bl.length : Int) = s.m ∧ ∃ d : Ent, F12 K ((), (x1, x2, x3, ()), ()) s.O = some (((d.1, d.2.1, d.2.2.1, ()), true, 0, ()), s'.M) ∧ (d :: live s').Perm (newE s x1 x2 x3 :: live s) ∧ (∀ y ∈ live s', btr d y = false) ∧ s'.md = true ∧
        s'.k = (if s.md = false then d.1 else if s.k < d.1 then d.1 else s.k)) ∧ Inv s' ∧ s'.m = s.m ∧ s'.t = IntKind.wrap IntKind.u64 (s.t + 1) := by
  obtain ⟨n, all1, fr1, hor, hnd, hbd, hsame, hnew, hcnt, hge, hle⟩ := place hI hl (newE s x1 x2 x3)
  obtain ⟨m, t, mk, md, all, fr, bl, ba, wl, wa⟩ := s
  obtain ⟨sb, sw, hb, hw, pw, nd, bd, cnt, lb, lw, cap, mhi⟩ := hI
  simp only [live] at *
  have hbn := hbd n (List.mem_cons_self ..)
  rw [Int.toNat_natCast] at hbn
  have hbb : Bd all1 bl := fun x hx => hbd x (List.mem_cons_of_mem _ (List.mem_append_left _ hx))
  have hnb : (n : Int) ∉ bl := fun h => (List.nodup_cons.1 hnd).1 (List.mem_append_left _ h)
  have hb' : Hp (ahb all1) bl := hb.congr fun x hx y hy => by simp only [ahb, hsame x hx, hsame y hy]
  have hw' : Hp (ahw all1) wl := hw.congr fun x hx y hy => by simp only [ahw, hsame x (pw.mem_iff.1 hx), hsame y (pw.mem_iff.1 hy)]
  have hwl := pw.length_eq
  obtain ⟨bl1, ba1, e1, p1, n1, s1, c1⟩ := put_b (m := m) (t := IntKind.wrap IntKind.u64 (t + 1)) (mk := mk) (md := md) (all := all1) (fr := fr1) (ol := wl) (oa := wa) (K := K) (n := n) (l := bl) (at' := ba) (by omega) (by omega) (by omega) (by omega) hbb hbn.2 hnb hb' (by omega) sb
  obtain ⟨wl1, wa1, e2, p2, n2, s2, c2⟩ := put_w (m := m) (t := IntKind.wrap IntKind.u64 (t + 1)) (mk := mk) (md := md) (all := all1) (fr := fr1) (ol := bl1) (oa := ba1) (K := K) (n := n) (l := wl) (at' := wa) (by omega) (by omega) (by omega) (by omega) (hbb.perm pw) hbn.2 (fun h => hnb (pw.mem_iff.1 h)) hw' (by omega) sw
  have hpp : (bl1 ++ fr1).Perm ((n : Int) :: (bl ++ fr1)) := p1.append_right fr1
  have hl1 : bl1.length = bl.length + 1 := by rw [p1.length_eq]; rfl
  have hI1 : Inv ⟨m, IntKind.wrap IntKind.u64 (t + 1), mk, md, all1, fr1, bl1, ba1, wl1, wa1⟩ :=
    ⟨s1, s2, c1, c2, p2.trans ((pw.cons _).trans p1.symm), hpp.nodup_iff.2 hnd, hbd.perm hpp, by simp only; omega, by simp only; omega, by simp only; omega, hle, mhi⟩
  have hlive : (bl1.map (en all1)).Perm (newE ⟨m, t, mk, md, all, fr, bl, ba, wl, wa⟩ x1 x2 x3 :: bl.map (en all)) := by
    refine (p1.map _).trans ?_
    rw [List.map_cons, hnew]
    rw [List.map_congr_left hsame]
  by_cases hlt : (bl.length : Int) < m
  · refine ⟨⟨m, IntKind.wrap IntKind.u64 (t + 1), mk, md, all1, fr1, bl1, ba1, wl1, wa1⟩, .inl ⟨hlt, ?_, hlive, rfl, rfl⟩, hI1, rfl, rfl⟩
    rw [F12]
    refine bind_of rfl ?_
    dsimp only
    refine (if_neg (by decide)).trans ?_
    rcases hor with ⟨h0, rfl, rfl, rfl⟩ | ⟨h0, hn, hna, rfl, rfl⟩
    · refine (if_neg (by rw [decide_eq_true_eq]; intro h; exact absurd (show (0 : Int) < (fr1.length : Int) from h) (by omega))).trans ((if_pos (show (all.length + 1) * 32 ≤ 140737488355328 by omega)).trans ?_)
      refine bind_of e1 ?_
      refine bind_of e2 ?_
      refine bind_of rfl ?_
      exact if_pos (by rw [decide_eq_true_eq]; exact (show (bl1.length : Int) ≤ m by omega))
    · have ew : IntKind.wrap IntKind.i64 ((fr.length : Int) - (1 : Int)) = ((fr.length - 1 : Nat) : Int) := by rw [wi (by omega) (by omega)]; omega
      simp only [ew, Int.toNat_natCast]
      rw [show List.getD fr (fr.length - 1) 0 = (n : Int) from hn.symm]
      simp only [Int.toNat_natCast, Nat.sub_zero, List.drop_zero]
      have h1 : fr.length - 1 < fr.length := by omega
      refine (if_pos (by rw [decide_eq_true_eq]; exact (show (0 : Int) < (fr.length : Int) by omega))).trans ((if_pos (inN h1)).trans ((if_pos h1).trans ((if_pos (show (0 : Int) ≤ ((fr.length - 1 : Nat) : Int) ∧ ((fr.length - 1 : Nat) : Int) ≤ (fr.length : Int) by omega)).trans ((if_pos (inN hna)).trans ((if_pos hna).trans ?_)))))
      refine bind_of e1 ?_
      refine bind_of e2 ?_
      refine bind_of rfl ?_
      exact if_pos (by rw [decide_eq_true_eq]; exact (show (bl1.length : Int) ≤ m by omega))
  · have hw0 : 0 < wl1.length := by rw [p2.length_eq]; simp
    have hbw : bl1.length = wl1.length := by rw [p2.length_eq, p1.length_eq]; simp; omega
    obtain ⟨s2', e3, hI2, ha2, hp2, hm2, ht2, hk2, hd2⟩ := take_ok (K := K) (n := gi wl1 0) hI1 (hI1.pw.mem_iff.1 (gi_mem hw0)) (by simp only; omega)
    have hdl : ∀ y ∈ bl1, btr (en all1 (gi wl1 0)) (en all1 y) = false := fun y hy => root_w (s := ⟨m, IntKind.wrap IntKind.u64 (t + 1), mk, md, all1, fr1, bl1, ba1, wl1, wa1⟩) hI1 (by simp only; omega) hy
    obtain ⟨m', t', mk', md', all', fr', bl', ba', wl', wa'⟩ := s2'
    simp only at ha2 hp2 hm2 ht2 hk2 hd2 e3
    subst ha2 hm2 ht2 hk2 hd2
    have hfin : ∃ mk3, mk3 = (if md' = false then (en all' (gi wl1 0)).1 else if mk' < (en all' (gi wl1 0)).1 then (en all' (gi wl1 0)).1 else mk') ∧
        F12 K ((), (x1, x2, x3, ()), ()) (HS.O ⟨m', t, mk', md', all, fr, bl, ba, wl, wa⟩) = some ((((en all' (gi wl1 0)).1, (en all' (gi wl1 0)).2.1, (en all' (gi wl1 0)).2.2.1, ()), true, 0, ()), HS.M ⟨m', IntKind.wrap IntKind.u64 (t + 1), mk3, true, all', fr', bl', ba', wl', wa'⟩) := by
      refine ⟨_, rfl, ?_⟩
      rw [F12]
      refine bind_of rfl ?_
      dsimp only
      refine (if_neg (by decide)).trans ?_
      rcases hor with ⟨h0, rfl, rfl, rfl⟩ | ⟨h0, hn, hna, rfl, rfl⟩
      · refine (if_neg (by rw [decide_eq_true_eq]; intro h; exact absurd (show (0 : Int) < (fr1.length : Int) from h) (by omega))).trans ((if_pos (show (all.length + 1) * 32 ≤ 140737488355328 by omega)).trans ?_)
        refine bind_of e1 ?_
        refine bind_of e2 ?_
        refine bind_of rfl ?_
        refine (if_neg (by rw [decide_eq_true_eq]; intro h; exact absurd (show (bl1.length : Int) ≤ m' from h) (by omega))).trans ((if_pos (inN hw0)).trans ((if_pos hw0).trans ?_))
        refine bind_of e3 ?_
        dsimp only
        cases md' with
        | false => exact if_pos rfl
        | true =>
          refine (if_neg (by decide)).trans ?_
          by_cases hk : mk' < (en (all ++ [newE ⟨m', t, mk', true, all, fr1, bl, ba, wl, wa⟩ x1 x2 x3]) (gi wl1 0)).1
          · rw [if_neg (show ¬ (true = false) by decide), if_pos hk]; exact if_pos (decide_eq_true hk)
          · rw [if_neg (show ¬ (true = false) by decide), if_neg hk]; exact if_neg (fun h => hk (of_decide_eq_true h))
      · have ew : IntKind.wrap IntKind.i64 ((fr.length : Int) - (1 : Int)) = ((fr.length - 1 : Nat) : Int) := by rw [wi (by omega) (by omega)]; omega
        simp only [ew, Int.toNat_natCast]
        rw [show List.getD fr (fr.length - 1) 0 = (n : Int) from hn.symm]
        simp only [Int.toNat_natCast, Nat.sub_zero, List.drop_zero]
        have h1 : fr.length - 1 < fr.length := by omega
        refine (if_pos (by rw [decide_eq_true_eq]; exact (show (0 : Int) < (fr.length : Int) by omega))).trans ((if_pos (inN h1)).trans ((if_pos h1).trans ((if_pos (show (0 : Int) ≤ ((fr.length - 1 : Nat) : Int) ∧ ((fr.length - 1 : Nat) : Int) ≤ (fr.length : Int) by omega)).trans ((if_pos (inN hna)).trans ((if_pos hna).trans ?_)))))
        refine bind_of e1 ?_
        refine bind_of e2 ?_
        refine bind_of rfl ?_
        refine (if_neg (by rw [decide_eq_true_eq]; intro h; exact absurd (show (bl1.length : Int) ≤ m' from h) (by omega))).trans ((if_pos (inN hw0)).trans ((if_pos hw0).trans ?_))
        refine bind_of e3 ?_
        dsimp only
        cases md' with
        | false => exact if_pos rfl
        | true =>
          refine (if_neg (by decide)).trans ?_
          by_cases hk : mk' < (en (all.set n (newE ⟨m', t, mk', true, all, fr, bl, ba, wl, wa⟩ x1 x2 x3)) (gi wl1 0)).1
          · rw [if_neg (show ¬ (true = false) by decide), if_pos hk]; exact if_pos (decide_eq_true hk)
          · rw [if_neg (show ¬ (true = false) by decide), if_neg hk]; exact if_neg (fun h => hk (of_decide_eq_true h))
    obtain ⟨mk3, hk3, e4⟩ := hfin
    have q : (en all' (gi wl1 0) :: bl'.map (en all')).Perm (bl1.map (en all')) := (hp2.map (en all')).symm
    refine ⟨⟨m', IntKind.wrap IntKind.u64 (t + 1), mk3, true, all', fr', bl', ba', wl', wa'⟩, .inr ⟨by omega, en all' (gi wl1 0), e4, q.trans hlive, ?_, rfl, hk3⟩, ⟨hI2.sb, hI2.sw, hI2.hb, hI2.hw, hI2.pw, hI2.nd, hI2.bd, hI2.cnt, hI2.lb, hI2.lw, hI2.cap, hI2.mhi⟩, rfl, rfl⟩
    intro y hy
    obtain ⟨z, hz, rfl⟩ := List.mem_map.1 hy
    exact hdl z (hp2.mem_iff.2 (List.mem_cons_of_mem _ hz))
end Go.Eng.He

/- What 'knows' computes. No condition. -/
set_option linter.unusedVariables false
namespace Go.Eng.He
open Go Go.Eng Go.Proofs
theorem live_len (s : HS) : (live s).length = s.bl.length := by simp [live]
theorem top_ok {s : HS} (hI : Inv s) (h0 : 0 < s.bl.length) : ∃ d ∈ live s, F25 ((), ()) s.O = some (((d.1, d.2.1, d.2.2.1, ()), true, ()), s.O) ∧ ∀ e ∈ live s, btr e d = false := by
  have hm : gi s.bl 0 ∈ s.bl := gi_mem h0
  have hb := hI.bd _ (List.mem_append_left _ hm)
  refine ⟨en s.all (gi s.bl 0), List.mem_map.2 ⟨_, hm, rfl⟩, ?_, ?_⟩
  · rw [F25]
    refine bind_of (len_ok s) ?_
    refine (if_neg (by rw [decide_eq_true_eq]; intro h; exact absurd (show (s.bl.length : Int) = 0 from h) (by omega))).trans ((if_pos (inN h0)).trans ((if_pos h0).trans ((if_pos (inR hb)).trans ((if_pos hb.2).trans ?_))))
    rfl
  · intro e he
    obtain ⟨x, hx, rfl⟩ := List.mem_map.1 he
    exact root_b hI h0 hx
def empty (m : Int) : HS := ⟨m, 0, 0, false, [], [], [], [], [], []⟩
theorem inv_empty {m : Int} (h0 : 1 ≤ m) (h : m ≤ 65536) : Inv (empty m) :=
  ⟨fun i hi => absurd hi (Nat.not_lt_zero _), fun i hi => absurd hi (Nat.not_lt_zero _), fun i _ hi => absurd hi (Nat.not_lt_zero _), fun i _ hi => absurd hi (Nat.not_lt_zero _), List.Perm.refl _, List.nodup_nil, (fun x hx => nomatch hx), rfl, Nat.le_refl _, Nat.le_refl _, (by show ((0 : Nat) : Int) ≤ m + 1; omega), h⟩
theorem new_ok {m : Int} (h0 : 1 ≤ m) (h : m ≤ 65536) : F9 (m, ()) () = some (Sum.inr (((), 0, ()), (empty m).O)) := by
  rw [F9]
  exact (if_neg (fun h' => absurd (of_decide_eq_true h') (show ¬ m < 1 by omega))).trans (if_neg (fun h' => absurd (of_decide_eq_true h') (show ¬ 65536 < m by omega)))
theorem knows_ok {K : Nat} (hK : 200000 < K) : F11 K () () = some (true, ()) := by
  obtain ⟨s1, h1, I1, m1, t1⟩ := put_ok (K := K) (inv_empty (m := 2) (by decide) (by decide)) (by decide) 1 0 7 hK
  rcases h1 with ⟨_, e1, p1, _⟩ | ⟨h, _⟩
  rotate_left
  · exact absurd h (by decide)
  have l1 : s1.bl.length = 1 := by rw [← live_len, p1.length_eq]; rfl
  have m1 : s1.m = 2 := m1
  obtain ⟨s2, h2, I2, m2, t2⟩ := put_ok (K := K) I1 (by omega) 3 0 8 hK
  rcases h2 with ⟨_, e2, p2, _⟩ | ⟨h, _⟩
  rotate_left
  · omega
  have l2 : s2.bl.length = 2 := by rw [← live_len, p2.length_eq, List.length_cons, live_len, l1]
  obtain ⟨d, hd, e3, hmax⟩ := top_ok I2 (by omega)
  have hd8 : d.2.2.1 = 8 := by
    have hp : (live s2).Perm [newE s1 3 0 8, newE (empty 2) 1 0 7] := p2.trans (p1.cons _)
    have h1 := hmax (newE s1 3 0 8) (hp.mem_iff.2 (by simp))
    rcases List.mem_cons.1 (hp.mem_iff.1 hd) with h | h
    · rw [h]; rfl
    · rw [List.mem_singleton.1 h] at h1
      exact absurd h1 (by simp [btr, newE])
  rw [F11]
  refine bind_of (new_ok (m := 2) (by decide) (by decide)) ?_
  dsimp only [Sum.elim_inr]
  refine bind_of rfl ?_
  refine (if_neg (by decide)).trans ?_
  refine bind_of e1 ?_
  refine bind_of e2 ?_
  refine bind_of e3 ?_
  refine (if_pos rfl).trans ((if_pos (decide_eq_true hd8)).trans ?_)
  refine bind_of (len_ok s2) ?_
  show some (decide ((s2.bl.length : Int) = 2), ()) = _
  rw [l2]; rfl
end Go.Eng.He

/- What HeapNil's code computes. No condition. -/
set_option linter.unusedVariables false
namespace Go.Eng.He
open Go Go.Eng Go.Proofs
theorem same_nil {k : Nat} (a : Int) : F37 (k + 1) ((), (), a, ()) () = some (true, ()) := by
  have h0 : L37_7 (k + 1) ((), (), (0 : Int), (0 : Int), ()) () = some (true, ()) := rfl
  rw [F37]
  by_cases h : (0 : Int) < a
  · have hn : ¬ decide (a < (0 : Int)) = true := by rw [decide_eq_true_eq]; omega
    rw [if_pos (decide_eq_true h), if_neg hn]; exact h0
  · rw [if_neg (by rw [decide_eq_true_eq]; exact h)]; exact h0
abbrev ZB : Type := OPL.T os21z
theorem nil_n {k : Nat} (a1 a2 a3 a4 a5 : Int) : F21n (k + 1) ((), (), (a1, a2, a3, a4, a5, ()), ()) () = some (true, ()) := by
  have h := same_nil (k := k) a5
  rw [F21n]
  by_cases h1 : a1 = 1
  · rw [if_pos (decide_eq_true h1)]; rfl
  rw [if_neg (by rw [decide_eq_true_eq]; exact h1)]
  by_cases h2 : a1 = 2
  · rw [if_pos (decide_eq_true h2)]; rfl
  rw [if_neg (by rw [decide_eq_true_eq]; exact h2)]
  by_cases h3 : a1 = 3
  · rw [if_pos (decide_eq_true h3)]; rfl
  rw [if_neg (by rw [decide_eq_true_eq]; exact h3)]
  by_cases h4 : a1 = 4
  · rw [if_pos (decide_eq_true h4)]; rfl
  rw [if_neg (by rw [decide_eq_true_eq]; exact h4)]
  by_cases h5 : a1 = 5
  · rw [if_pos (decide_eq_true h5)]
    refine bind_of (v := (((), true, ()), ())) rfl ?_
    show Option.bind (F37 (k + 1) ((), (), a5, ()) ()) _ = _
    exact bind_of h rfl
  rw [if_neg (by rw [decide_eq_true_eq]; exact h5)]
  rfl
theorem nil_z {k : Nat} (a1 a2 a3 a4 a5 b1 b2 b3 : Int) (b4 : Bool) : F21z (k + 1) ((), (), (a1, a2, a3, a4, a5, ()), ()) ((b1, (), (), (), (), b2, b3, b4, ()), ()) = some (true, ((b1, (), (), (), (), b2, b3, b4, ()), ())) := by
  have h := same_nil (k := k) a5
  rw [F21z]
  by_cases h1 : a1 = 1
  · rw [if_pos (decide_eq_true h1)]; rfl
  rw [if_neg (by rw [decide_eq_true_eq]; exact h1)]
  by_cases h2 : a1 = 2
  · rw [if_pos (decide_eq_true h2)]; rfl
  rw [if_neg (by rw [decide_eq_true_eq]; exact h2)]
  by_cases h3 : a1 = 3
  · rw [if_pos (decide_eq_true h3)]; rfl
  rw [if_neg (by rw [decide_eq_true_eq]; exact h3)]
  by_cases h4 : a1 = 4
  · rw [if_pos (decide_eq_true h4)]; rfl
  rw [if_neg (by rw [decide_eq_true_eq]; exact h4)]
  by_cases h5 : a1 = 5
  · rw [if_pos (decide_eq_true h5)]
    refine bind_of (v := (((), true, ()), ((b1, (), (), (), (), b2, b3, b4, ()), ()))) rfl ?_
    show Option.bind (F37 (k + 1) ((), (), a5, ()) ()) _ = _
    exact bind_of h rfl
  rw [if_neg (by rw [decide_eq_true_eq]; exact h5)]
  rfl
theorem loop8 {K : Nat} {a1 : List (Int × Int × Int × Int × Int)} (hlen : a1.length ≤ 1000000000000000) (b1 b2 b3 : Int) (b4 : Bool) : ∀ (d : Nat) {i : Nat} {k : Nat}, i ≤ a1.length → a1.length - i = d → d < k →
    L8_4 (K + 200001) k (a1, (), (), (i : Int), ()) ((b1, (), (), (), (), b2, b3, b4, ()), ()) = some (true, ())
  | 0, i, 0, hi, hd, hk => by omega
  | 0, i, k + 1, hi, hd, hk => by
    rw [L8_4]
    refine (if_neg (show ¬ decide ((i : Int) < (a1.length : Int)) = true by rw [decide_eq_true_eq]; omega)).trans ?_
    refine bind_of (nil_n (k := K + 200000) _ _ _ _ _) ?_
    refine (if_pos rfl).trans ?_
    refine bind_of (nil_z (k := K + 200000) _ _ _ _ _ _ _ _ _) ?_
    refine (if_pos rfl).trans ?_
    exact bind_of (knows_ok (by omega)) rfl
  | d + 1, i, 0, hi, hd, hk => by omega
  | d + 1, i, k + 1, hi, hd, hk => by
    have hin : (0 : Int) ≤ (i : Int) ∧ (i : Int) < (a1.length : Int) := by omega
    rw [L8_4]
    refine (if_pos (decide_eq_true hin.2)).trans ((if_pos hin).trans ?_)
    refine bind_of (nil_n (k := K + 200000) _ _ _ _ _) ?_
    refine (if_neg (by decide)).trans ((if_pos hin).trans ?_)
    refine bind_of (nil_z (k := K + 200000) _ _ _ _ _ _ _ _ _) ?_
    refine (if_neg (show ¬ (!true) = true by decide)).trans ?_
    rw [wi (by omega) (by omega)]
    exact loop8 hlen b1 b2 b3 b4 d (i := i + 1) (by omega) (by omega) (by omega)
theorem nil_law {a1 : List (Int × Int × Int × Int × Int)} (h1 : a1.length ≤ 140737488355328) : ∃ K, F8 K (a1, ()) () = some (true, ()) := by
  refine ⟨a1.length + 1 + 200001, ?_⟩
  rw [F8]
  exact loop8 (by omega) 0 0 0 false a1.length (i := 0) (by omega) (by omega) (by omega)
end Go.Eng.He

