/- The engine, part 2: a second reading of the code over values and lists, and that it is right. No condition. -/
import Derived.Test.YtinjfnjhhdjklaaE1
import Derived.Scope
import Derived.Orders
set_option linter.unusedVariables false
set_option linter.unusedSimpArgs false
namespace Go.Eng
variable {R : Type} {P : Program} {S : Sc} {w0 w : World} {E : En} {st : St} {a : Act} {r : R} {H : Nat → Option JObj}
def asV (P : Program) (t : TypeId) (us : List Value) : Value :=
  match P.underlying t with
  | some (.struct _) => .agg us.toArray
  | some (.array _ _) => .agg us.toArray
  | _ => us.getD 0 undef
theorem part_run {t : TypeId} {d : TypeDesc} {us vs : List Value} {off : Nat} (hu : P.underlying t = some d) (hvs : (us.drop off).take (sizeJ P t) = vs) (hl : vs.length = sizeJ P t) (h1 : sizeJ P t = 1 ∨ (∃ f, d = .struct f) ∨ ∃ n e, d = .array n e) (hw : off + sizeJ P t ≤ us.length) :
    (part t us.toArray off).run P w = .ok (asV P t vs) w := by
  have hsub : (us.toArray.extract off (off + sizeJ P t)) = vs.toArray := by
    apply Array.ext'
    rw [Array.toList_extract, ← hvs]
    simp
  rcases h1 with h1 | ⟨f, rfl⟩ | ⟨n, e, rfl⟩
  · have hget : us.toArray[off]? = some (vs.getD 0 undef) := by
      have h2 : vs[0]? = us[off]? := by rw [← hvs, List.getElem?_take, if_pos (by omega), List.getElem?_drop]; rfl
      have h3 : us[off]? = some us[off] := List.getElem?_eq_getElem (by omega)
      simp only [List.getElem?_toArray, List.getD_eq_getElem?_getD, h2, h3, Option.getD_some]
    cases d <;> simp only [part, isAgg, Sem.run_bind, run_underlying hu, Sem.run_pure, Result.andThen_ok, Bool.false_eq_true, if_false, if_true, run_sizeOf hu, hget, hsub, asV, hu]
  · simp only [part, isAgg, Sem.run_bind, run_underlying hu, Sem.run_pure, Result.andThen_ok, if_true, run_sizeOf hu, hsub, asV, hu]
  · simp only [part, isAgg, Sem.run_bind, run_underlying hu, Sem.run_pure, Result.andThen_ok, if_true, run_sizeOf hu, hsub, asV, hu]
theorem RCs_one {c : JV} {us : List Value} (h : RCs E H [c] us) : RC E H c us := by
  obtain ⟨p, q, rfl, hp, rfl⟩ := h; simpa using hp
theorem eqInts_run {k : IntKind} {t e : TypeId} {k' : IntKind} {m d : Nat} {l l' : List Int} (hu : P.underlying t = some (.array m e)) (he : P.underlying e = some (.int k')) (hs : sizeJ P e = 1) (hl : l.length = m) (hl' : l'.length = m) :
    (Op.equalIn (d + 2) t (.agg (l.map (Value.int k)).toArray) (.agg (l'.map (Value.int k)).toArray)).run P w = .ok (decide (l = l')) w := by
  have hpart : ∀ (l : List Int) (i : Nat), i < l.length → (part e (l.map (Value.int k)).toArray (i * 1)).run P w = .ok (.int k (l.getD i 0)) w := by
    intro l i hi
    have := part_run (P := P) (w := w) (t := e) (us := l.map (Value.int k)) (off := i * 1) he rfl (by rw [hs, List.length_take, List.length_drop, List.length_map]; omega) (.inl hs) (by rw [hs, List.length_map]; omega)
    rw [this]
    congr 1
    simp only [asV, he, hs, List.getD_eq_getElem?_getD]
    rw [List.getElem?_take, if_pos (by omega), List.getElem?_drop, List.getElem?_map, Nat.mul_one, Nat.add_zero, List.getElem?_eq_getElem hi]; rfl
  have key : ∀ n i, i + n = m → (∀ j, j < i → l.getD j 0 = l'.getD j 0) →
      ((forIn (List.range' i n) ((none, ()) : Option Bool × PUnit) fun i r => (do
        let x ← part e (l.map (Value.int k)).toArray (i * 1)
        let y ← part e (l'.map (Value.int k)).toArray (i * 1)
        let q ← Op.equalIn (d + 1) e x y
        if (!q) = true then pure (.done (some false, ())) else pure (.yield (none, ())) : Sem (ForInStep (Option Bool × PUnit)))).run P w) = .ok (if l = l' then (none, ()) else (some false, ())) w := by
    intro n
    induction n with
    | zero =>
      intro i hi hall
      have : l = l' := by
        apply List.ext_getElem?
        intro j
        by_cases hj : j < m
        · have := hall j (by omega)
          rw [List.getD_eq_getElem?_getD, List.getD_eq_getElem?_getD, List.getElem?_eq_getElem (by omega), List.getElem?_eq_getElem (by omega)] at this
          rw [List.getElem?_eq_getElem (by omega), List.getElem?_eq_getElem (by omega)]; simpa using this
        · rw [List.getElem?_eq_none (by omega), List.getElem?_eq_none (by omega)]
      simp [this]
    | succ n ih =>
      intro i hi hall
      rw [List.range'_succ, List.forIn_cons, Sem.run_bind, Sem.run_bind, hpart l i (by omega), Result.andThen_ok, Sem.run_bind, hpart l' i (by omega), Result.andThen_ok, Sem.run_bind, run_equalIn_int _ _ _ _ k' _ _ he, Result.andThen_ok]
      by_cases hq : l.getD i 0 = l'.getD i 0
      · simp only [hq, beq_self_eq_true, Bool.not_true, Bool.false_eq_true, if_false, Sem.run_pure, Result.andThen_ok]
        exact ih (i + 1) (by omega) (fun j hj => by
          by_cases h' : j < i
          · exact hall j h'
          · rw [show j = i by omega]; exact hq)
      · have hne : l ≠ l' := fun e => hq (by rw [e])
        have : (l.getD i 0 == l'.getD i 0) = false := by simpa using hq
        simp only [this, Bool.not_false, if_true, Sem.run_pure, Result.andThen_ok, if_neg hne]
  have hk := key m 0 (by omega) (by intro j hj; omega)
  unfold Op.equalIn
  simp only [Sem.run_bind, run_underlying hu, Result.andThen_ok, size_pos (show 1 ≤ sizeJ P e by omega), hs]
  rw [Std.Legacy.Range.forIn_eq_forIn_range']
  simp only [Std.Legacy.Range.size, Nat.sub_zero, Nat.add_sub_cancel, Nat.div_one]
  rw [hk]
  by_cases hll : l = l'
  · simp [hll]
  · simp [hll]
theorem loop_run {m : Nat} {body : Nat → (Option Bool × PUnit) → Sem (ForInStep (Option Bool × PUnit))} (b : Nat → Bool) (h : ∀ j r, j < m → (body j r).run P w = .ok (if b j then .yield (none, ()) else .done (some false, ())) w) :
    (forIn (List.range' 0 m) ((none, ()) : Option Bool × PUnit) body).run P w = .ok (if ∀ j, j < m → b j = true then (none, ()) else (some false, ())) w := by
  have key : ∀ n i, i + n = m → (∀ j, j < i → b j = true) → (forIn (List.range' i n) ((none, ()) : Option Bool × PUnit) body).run P w = .ok (if ∀ j, j < m → b j = true then (none, ()) else (some false, ())) w := by
    intro n
    induction n with
    | zero => intro i hi hall; rw [if_pos (fun j hj => hall j (by omega))]; rfl
    | succ n ih =>
      intro i hi hall
      rw [List.range'_succ, List.forIn_cons, Sem.run_bind, h i _ (by omega), Result.andThen_ok]
      cases hb : b i with
      | true =>
        exact ih (i + 1) (by omega) (fun j hj => by
          by_cases h' : j < i
          · exact hall j h'
          · rw [show j = i by omega]; exact hb)
      | false =>
        have hne : ¬ ∀ j, j < m → b j = true := fun hh => by have := hh i (by omega); rw [hb] at this; cases this
        rw [if_neg hne]; rfl
  exact key m 0 (by omega) (by intro j hj; omega)
theorem eqRows_run {k : IntKind} {t e e2 : TypeId} {k' : IntKind} {m m2 d : Nat} {l l' : List Int} (hu : P.underlying t = some (.array m e)) (he : P.underlying e = some (.array m2 e2)) (he2 : P.underlying e2 = some (.int k')) (hs : sizeJ P e = m2) (hs2 : sizeJ P e2 = 1)
    (hl : l.length = m * m2) (hl' : l'.length = m * m2) (hm2 : 1 ≤ m2) :
    (Op.equalIn (d + 3) t (.agg (l.map (Value.int k)).toArray) (.agg (l'.map (Value.int k)).toArray)).run P w = .ok (decide (l = l')) w := by
  have hrow : ∀ (l : List Int), l.length = m * m2 → ∀ i, i < m → i * m2 + m2 ≤ l.length := fun l hl i hi => by
    rw [hl, ← Nat.succ_mul]; exact Nat.mul_le_mul_right _ hi
  have hpart : ∀ (l : List Int), l.length = m * m2 → ∀ (i : Nat), i < m → (part e (l.map (Value.int k)).toArray (i * m2)).run P w = .ok (.agg (((l.drop (i * m2)).take m2).map (Value.int k)).toArray) w := by
    intro l hl i hi
    have h1 := hrow l hl i hi
    have := part_run (P := P) (w := w) (t := e) (us := l.map (Value.int k)) (off := i * m2) he rfl (by rw [hs, List.length_take, List.length_drop, List.length_map]; omega) (.inr (.inr ⟨m2, e2, rfl⟩)) (by rw [hs, List.length_map]; omega)
    rw [this]
    simp only [asV, he, hs, List.map_take, List.map_drop]
  have hlen : ∀ (l : List Int), l.length = m * m2 → ∀ i, i < m → ((l.drop (i * m2)).take m2).length = m2 := fun l hl i hi => by
    have := hrow l hl i hi
    rw [List.length_take, List.length_drop]; omega
  have hbody := loop_run (P := P) (w := w) (m := m) (body := fun i _ => do
        let x ← part e (l.map (Value.int k)).toArray (i * m2)
        let y ← part e (l'.map (Value.int k)).toArray (i * m2)
        let q ← Op.equalIn (d + 2) e x y
        if (!q) = true then pure (.done (some false, ())) else pure (.yield (none, ()))) (fun i => decide ((l.drop (i * m2)).take m2 = (l'.drop (i * m2)).take m2)) (fun j r hj => by
      rw [Sem.run_bind, hpart l hl j hj, Result.andThen_ok, Sem.run_bind, hpart l' hl' j hj, Result.andThen_ok, Sem.run_bind, eqInts_run he he2 hs2 (hlen l hl j hj) (hlen l' hl' j hj), Result.andThen_ok]
      by_cases hq : (l.drop (j * m2)).take m2 = (l'.drop (j * m2)).take m2
      · simp [hq]
      · simp [hq])
  unfold Op.equalIn
  simp only [Sem.run_bind, run_underlying hu, Result.andThen_ok, size_pos (show 1 ≤ sizeJ P e by omega), hs]
  rw [Std.Legacy.Range.forIn_eq_forIn_range']
  simp only [Std.Legacy.Range.size, Nat.sub_zero, Nat.add_sub_cancel, Nat.div_one]
  rw [hbody]
  have hiff : (∀ j, j < m → decide ((l.drop (j * m2)).take m2 = (l'.drop (j * m2)).take m2) = true) ↔ l = l' := by
    constructor
    · intro h
      apply List.ext_getElem?
      intro j
      by_cases hj : j < m * m2
      · have hj1 : j / m2 < m := Nat.div_lt_of_lt_mul (by rw [Nat.mul_comm]; exact hj)
        have hr := of_decide_eq_true (h (j / m2) hj1)
        have hmod : j % m2 < m2 := Nat.mod_lt _ hm2
        have hjj : j / m2 * m2 + j % m2 = j := by rw [Nat.mul_comm]; exact Nat.div_add_mod j m2
        have := congrArg (fun x : List Int => x[j % m2]?) hr
        simp only [List.getElem?_take, if_pos hmod, List.getElem?_drop, hjj] at this
        exact this
      · rw [List.getElem?_eq_none (by omega), List.getElem?_eq_none (by omega)]
    · rintro rfl j _; simp
  by_cases hll : l = l'
  · rw [if_pos (hiff.2 hll)]; simp [hll]
  · rw [if_neg (fun h => hll (hiff.1 h))]; simp [hll]
theorem subJ_ok {f : Field} {cs c : List JV} {us : List Value} (h : subJ P f cs = some c) (hr : RCs E H cs us) : RCs E H c ((us.drop f.offset).take (sizeJ P f.type)) ∧ f.offset + sizeJ P f.type ≤ us.length := by
  unfold subJ at h
  split at h
  · rename_i r hd
    obtain ⟨h1, h2⟩ := dropAt_ok hd hr
    obtain ⟨h3, h4⟩ := takeAt_ok h h1
    rw [List.length_drop] at h4
    exact ⟨h3, by omega⟩
  · cases h
theorem eqF_ok {n d : Nat} (ih : ∀ {t : TypeId} {cs ds : List JV} {us vs : List Value} {b : Bool}, eqJ P n t cs ds = some b → RCs E H cs us → RCs E H ds vs → us.length = sizeJ P t → vs.length = sizeJ P t → (sizeJ P t = 1 ∨ (∃ f, P.underlying t = some (.struct f)) ∨ ∃ n e, P.underlying t = some (.array n e)) ∧ (Op.equalIn d t (asV P t us) (asV P t vs)).run P w = .ok b w) :
    ∀ {fs : List Field} {cs ds : List JV} {us vs : List Value} {b : Bool}, eqF P (eqJ P n) fs cs ds = some b → RCs E H cs us → RCs E H ds vs → (Op.eqFields d us.toArray vs.toArray fs).run P w = .ok b w
  | [], cs, ds, us, vs, b, h, h1, h2 => by simp only [eqF, Option.some.injEq] at h; subst h; rfl
  | f :: fs, cs, ds, us, vs, b, h, h1, h2 => by
    simp only [eqF] at h
    cases hn : decide (f.name = "_") with
    | true => rw [hn] at h; cases h
    | false =>
      rw [hn] at h; simp only [cond_false] at h
      have hn' : f.name ≠ "_" := of_decide_eq_false hn
      split at h
      · rename_i c hc
        split at h
        · rename_i dd hdd
          split at h
          · rename_i x hx
            split at h
            · rename_i y hy
              simp only [Option.some.injEq] at h; subst h
              obtain ⟨g1, g2⟩ := subJ_ok hc h1
              obtain ⟨g3, g4⟩ := subJ_ok hdd h2
              have q1 : ((us.drop f.offset).take (sizeJ P f.type)).length = sizeJ P f.type := by rw [List.length_take, List.length_drop]; omega
              have q2 : ((vs.drop f.offset).take (sizeJ P f.type)).length = sizeJ P f.type := by rw [List.length_take, List.length_drop]; omega
              obtain ⟨q0, q3⟩ := ih hx g1 g3 q1 q2
              have hex : ∃ ud, P.underlying f.type = some ud ∧ (sizeJ P f.type = 1 ∨ (∃ fl, ud = .struct fl) ∨ ∃ n e, ud = .array n e) := by
                rcases q0 with q0 | ⟨fl, q0⟩ | ⟨n', e, q0⟩
                · cases hud : P.underlying f.type with
                  | none =>
                    cases n with
                    | zero => simp [eqJ] at hx
                    | succ n => simp [eqJ, hud] at hx
                  | some ud => exact ⟨ud, rfl, .inl q0⟩
                · exact ⟨_, q0, .inr (.inl ⟨fl, rfl⟩)⟩
                · exact ⟨_, q0, .inr (.inr ⟨n', e, rfl⟩)⟩
              obtain ⟨ud, hud, hcase⟩ := hex
              simp only [Op.eqFields, ne_eq, hn', not_false_eq_true, if_true, Sem.run_bind, part_run hud rfl q1 hcase g2, part_run hud rfl q2 hcase g4, Result.andThen_ok, q3, Sem.run_ite, Sem.run_pure]
              cases x with
              | false => simp
              | true => simp only [Bool.not_true, Bool.false_eq_true, if_false, Bool.true_and]; exact eqF_ok ih hy h1 h2
            · cases h
          · cases h
        · cases h
      · cases h
theorem fields_und {t : TypeId} {fs : Array Field} (h : P.underlying t = some (.struct fs)) : P.fieldsOf t = fs := by unfold Program.fieldsOf; rw [h]
theorem eqJ_ok : ∀ {n : Nat} {t : TypeId} {cs ds : List JV} {us vs : List Value} {b : Bool}, eqJ P n t cs ds = some b → RCs E H cs us → RCs E H ds vs → us.length = sizeJ P t → vs.length = sizeJ P t →
    ∀ d, n + 2 ≤ d → (sizeJ P t = 1 ∨ (∃ f, P.underlying t = some (.struct f)) ∨ ∃ n e, P.underlying t = some (.array n e)) ∧ (Op.equalIn d t (asV P t us) (asV P t vs)).run P w = .ok b w
  | 0, t, cs, ds, us, vs, b, h, h1, h2, l1, l2, d, hd => by simp [eqJ] at h
  | n + 1, t, cs, ds, us, vs, b, h, h1, h2, l1, l2, d, hd => by
    obtain ⟨d, rfl⟩ : ∃ d', d = d' + 3 := ⟨d - 3, by omega⟩
    simp only [eqJ] at h
    split at h
    · rename_i kt hu
      split at h
      · rename_i k x
        split at h
        · rename_i k' y
          split at h
          · rename_i hk; subst hk; cases h
            obtain ⟨rfl, _⟩ := RCs_one h1
            obtain ⟨rfl, _⟩ := RCs_one h2
            refine ⟨.inl l1.symm, ?_⟩
            simp only [asV, hu, List.getD_cons_zero]
            rw [run_equalIn_int w _ t k kt x y hu]; congr 1
          · cases h
        · cases h
      · cases h
    · rename_i hu
      split at h
      · split at h
        · cases h
          have := RCs_one h1; cases this
          have := RCs_one h2; cases this
          refine ⟨.inl l1.symm, ?_⟩
          simp only [asV, hu, List.getD_cons_zero]
          rw [run_equalIn_bool' w _ t _ _ hu]
        · cases h
      · cases h
    · rename_i hu
      split at h
      · split at h
        · cases h
          obtain ⟨s, e1, rfl, _⟩ := RCs_one h1; subst e1
          obtain ⟨s', e2, rfl, _⟩ := RCs_one h2; subst e2
          refine ⟨.inl l1.symm, ?_⟩
          simp only [asV, hu, List.getD_cons_zero]
          rw [run_equalIn_string w _ t _ _ hu, bytes_eq]
        · cases h
      · cases h
    · rename_i m e hu
      refine ⟨.inr (.inr ⟨m, e, hu⟩), ?_⟩
      split at h
      · rename_i ke he
        split at h
        · rename_i k n1 l
          split at h
          · rename_i k' n2 l'
            cases hc : (Nat.beq n1 m && Nat.beq n2 m && Nat.beq (sizeJ P e) 1 && decide (k = k')) with
            | false => rw [hc] at h; cases h
            | true =>
              rw [hc] at h; simp only [cond_true, Option.some.injEq] at h; subst h
              simp only [Bool.and_eq_true, decide_eq_true_eq] at hc
              obtain ⟨⟨⟨c1, c2⟩, c3⟩, rfl⟩ := hc
              have c1 := Nat.eq_of_beq_eq_true c1
              have c2 := Nat.eq_of_beq_eq_true c2
              have c3 : sizeJ P e = 1 := Nat.eq_of_beq_eq_true c3
              obtain ⟨rfl, g1, _⟩ := RCs_one h1
              obtain ⟨rfl, g2, _⟩ := RCs_one h2
              simp only [asV, hu]
              exact eqInts_run (d := d + 1) hu he c3 (by omega) (by omega)
          · cases h
        · cases h
      · rename_i m2 e2 he
        split at h
        · rename_i ke he2
          split at h
          · rename_i k n1 l
            split at h
            · rename_i k' n2 l'
              cases hc : (Nat.beq n1 (m * m2) && Nat.beq n2 (m * m2) && Nat.beq (sizeJ P e) m2 && Nat.beq (sizeJ P e2) 1 && Nat.ble 1 m2 && decide (k = k')) with
              | false => rw [hc] at h; cases h
              | true =>
                rw [hc] at h; simp only [cond_true, Option.some.injEq] at h; subst h
                simp only [Bool.and_eq_true, decide_eq_true_eq] at hc
                obtain ⟨⟨⟨⟨⟨c1, c2⟩, c3⟩, c4⟩, c5⟩, rfl⟩ := hc
                have c5 : 1 ≤ m2 := Nat.le_of_ble_eq_true c5
                have c1 := Nat.eq_of_beq_eq_true c1
                have c2 := Nat.eq_of_beq_eq_true c2
                have c3 : sizeJ P e = m2 := Nat.eq_of_beq_eq_true c3
                have c4 : sizeJ P e2 = 1 := Nat.eq_of_beq_eq_true c4
                obtain ⟨rfl, g1, _⟩ := RCs_one h1
                obtain ⟨rfl, g2, _⟩ := RCs_one h2
                simp only [asV, hu]
                exact eqRows_run (d := d) hu he he2 c3 c4 (by omega) (by omega) c5
            · cases h
          · cases h
        · cases h
      · cases h
    · rename_i fs hu
      refine ⟨.inr (.inl ⟨fs, hu⟩), ?_⟩
      cases hst : P.stoodInHeld t with
      | true => rw [hst] at h; cases h
      | false =>
        rw [hst] at h; simp only [cond_false] at h
        have hf := fields_und hu
        simp only [asV, hu]
        rw [run_equalIn_struct w (d + 2) t _ _ (by rw [hf]; exact hu) hst, hf]
        exact eqF_ok (fun h h1 h2 l1 l2 => eqJ_ok h h1 h2 l1 l2 (d + 2) (by omega)) h h1 h2
    · cases h
end Go.Eng

namespace Go.Eng
variable {R : Type} {P : Program} {S : Sc} {w0 w : World} {E : En} {st : St} {a : Act} {r : R} {H : Nat → Option JObj}
theorem aggC_ok {jv : JV} {x : Value} {cs : List JV} (h : aggC jv = some cs) (hv : RV E H jv x) : ∃ vs, x = .agg vs ∧ RCs E H cs vs.toList := by
  cases jv <;> simp only [aggC] at h <;> cases h
  · obtain ⟨vs, rfl, h⟩ := hv
    exact ⟨vs, rfl, vs.toList, [], by simp, h, rfl⟩
  · exact hv
theorem aggEq_ok {t : TypeId} {jx jy : JV} {x y : Value} {b : Bool} (hu : (∃ f, P.underlying t = some (.struct f)) ∨ ∃ n e, P.underlying t = some (.array n e)) (h : aggEq P t jx jy = some b) (hx : RV E H jx x) (hy : RV E H jy y) :
    (∃ xs ys, x = .agg xs ∧ y = .agg ys) ∧ P.eqGuardType P.depth t = false ∧ (Op.equal t x y).run P w = .ok b w := by
  unfold aggEq at h
  split at h
  · rename_i cs hcs
    split at h
    · rename_i ds hds
      obtain ⟨xs, rfl, h1⟩ := aggC_ok hcs hx
      obtain ⟨ys, rfl, h2⟩ := aggC_ok hds hy
      cases hg : P.eqGuardType P.depth t with
      | true => rw [hg] at h; cases h
      | false =>
        rw [hg] at h; simp only [cond_false] at h
        cases hc : (Nat.beq (wids cs) (sizeJ P t) && Nat.beq (wids ds) (sizeJ P t)) with
        | false => rw [hc] at h; cases h
        | true =>
          rw [hc] at h; simp only [cond_true] at h
          simp only [Bool.and_eq_true] at hc
          have c1 := Nat.eq_of_beq_eq_true hc.1
          have c2 := Nat.eq_of_beq_eq_true hc.2
          obtain ⟨_, hr⟩ := eqJ_ok (P := P) (w := w) h h1 h2 (by rw [RCs_len h1, c1]) (by rw [RCs_len h2, c2]) 10000 (by decide)
          have e1 : ∀ (zs : Array Value), asV P t zs.toList = .agg zs := fun zs => by
            unfold asV
            rcases hu with ⟨f, hu⟩ | ⟨n, e, hu⟩ <;> rw [hu] <;> simp
          rw [e1, e1] at hr
          exact ⟨⟨xs, ys, rfl, rfl⟩, rfl, hr⟩
    · cases h
  · cases h
theorem eq_nilp {t e : TypeId} {d : Nat} {q : Option Addr} (hu : P.underlying t = some (.pointer e)) : (Op.equalIn (d + 1) t (.pointer none) (.pointer q)).run P w = .ok q.isNone w := by
  unfold Op.equalIn; simp only [Sem.run_bind, run_underlying hu, Result.andThen_ok, Sem.run_pure]
theorem eq_ptr {t e : TypeId} {d : Nat} {q : Addr} (hu : P.underlying t = some (.pointer e)) : (Op.equalIn (d + 1) t (.pointer (some q)) (.pointer none)).run P w = .ok false w := by
  unfold Op.equalIn; simp only [Sem.run_bind, run_underlying hu, Result.andThen_ok, Sem.run_pure]
theorem eq_nilf {t : TypeId} {ps rs : Array TypeId} {v : Bool} {d : Nat} (hu : P.underlying t = some (.func ps rs v)) : (Op.equalIn (d + 1) t .nilFunc .nilFunc).run P w = .ok true w := by
  unfold Op.equalIn; simp only [Sem.run_bind, run_underlying hu, Result.andThen_ok, Sem.run_pure]
theorem eq_fn {t : TypeId} {ps rs : Array TypeId} {v : Bool} {d : Nat} {f : Fn} {x y : Array Value} (hu : P.underlying t = some (.func ps rs v)) : (Op.equalIn (d + 1) t (.func f x y) .nilFunc).run P w = .ok false w := by
  unfold Op.equalIn; simp only [Sem.run_bind, run_underlying hu, Result.andThen_ok, Sem.run_pure]
theorem eq_nils {t e : TypeId} {d : Nat} (hu : P.underlying t = some (.slice e)) : (Op.equalIn (d + 1) t (.slice none 0 0) (.slice none 0 0)).run P w = .ok true w := by
  unfold Op.equalIn; simp only [Sem.run_bind, run_underlying hu, Result.andThen_ok, Sem.run_pure]; rfl
theorem eqlJ_ok {t : TypeId} {jx jy : JV} {x y : Value} {b : Bool} (hR : Rep S w0 E st a w) (h : eqlJ P t jx jy st = some b) (hx : RV E st.H jx x) (hy : RV E st.H jy y) (xo yo : Operand) (op : BinOp) (hop : op = .eql ∨ op = .neq) :
    (eqGuard op t xo yo x y).run P w = .ok () w ∧ (Op.equal t x y).run P w = .ok b w ∧ (∀ k n, x ≠ .int k n) ∧ (∀ s, x ≠ .string s) ∧ (∀ k n, x ≠ .float k n) ∧ (∀ k n m, x ≠ .complex k n m) := by
  have hm : (!(match op with | .eql | .neq => true | _ => false)) = false := by rcases hop with rfl | rfl <;> rfl
  have guard : (∀ cs, x ≠ .agg cs) → x ≠ .nilIface → (eqGuard op t xo yo x y).run P w = .ok () w := by
    intro h1 h2
    rcases hop with rfl | rfl <;> cases x <;> cases y <;> first | rfl | exact (h1 _ rfl).elim | exact (h2 rfl).elim
  unfold eqlJ at h
  split at h
  · rename_i hu
    split at h
    · split at h
      · cases h; cases RV_bool hx; cases RV_bool hy
        refine ⟨guard (by simp) (by simp), ?_, by simp, by simp, by simp, by simp⟩
        exact run_equalIn_bool' w _ t _ _ hu
      · cases h
    · cases h
  · rename_i e hu
    split at h
    · split at h
      · cases h; cases hx; cases hy
        refine ⟨guard (by simp) (by simp), ?_, by simp, by simp, by simp, by simp⟩
        exact eq_nilp (d := 9999) hu
      · rename_i id off
        split at h
        · rename_i cs rw ho
          cases h; cases hy
          obtain ⟨_, z, e1, _, hz⟩ := hx; cases e1
          rw [hz (by rw [ho]; rfl)]
          refine ⟨guard' hop, ?_, by simp, by simp, by simp, by simp⟩
          exact eq_ptr (d := 9999) hu
        · cases h
      · cases h
    · cases h
  · rename_i ps rs v hu
    split at h
    · split at h
      · cases h; cases hx; cases hy
        refine ⟨guard (by simp) (by simp), ?_, by simp, by simp, by simp, by simp⟩
        exact eq_nilf (d := 9999) hu
      · cases h; cases hy
        obtain ⟨cs, e1, _⟩ := hx
        obtain ⟨g3, g4, e2⟩ := fnV_func _ cs
        rw [e2] at e1; cases e1
        refine ⟨guard (by simp) (by simp), ?_, by simp, by simp, by simp, by simp⟩
        exact eq_fn (d := 9999) hu
      · cases h
    · cases h
  · rename_i e hu
    split at h
    · split at h
      · cases h; cases hx; cases hy
        refine ⟨guard (by simp) (by simp), ?_, by simp, by simp, by simp, by simp⟩
        exact eq_nils (d := 9999) hu
      · cases h
    · cases h
  · rename_i f hu
    obtain ⟨⟨xs, ys, rfl, rfl⟩, hg, hr⟩ := aggEq_ok (P := P) (w := w) (.inl ⟨f, hu⟩) h hx hy
    exact ⟨run_eqGuard_agg w op t xo yo xs ys hg, hr, by simp, by simp, by simp, by simp⟩
  · rename_i n e hu
    obtain ⟨⟨xs, ys, rfl, rfl⟩, hg, hr⟩ := aggEq_ok (P := P) (w := w) (.inr ⟨n, e, hu⟩) h hx hy
    exact ⟨run_eqGuard_agg w op t xo yo xs ys hg, hr, by simp, by simp, by simp, by simp⟩
  · cases h
where
  guard' {P : Program} {w : World} {t : TypeId} {xo yo : Operand} {op : BinOp} {p : Option Addr} (hop : op = .eql ∨ op = .neq) : (eqGuard op t xo yo (.pointer p) (.pointer none)).run P w = .ok () w := by
    rcases hop with rfl | rfl <;> rfl
end Go.Eng

namespace Go.Eng
variable {R : Type} {P : Program} {S : Sc} {w0 w : World} {E : En} {st : St} {a : Act} {r : R} {H : Nat → Option JObj}
theorem eqGuard_int {op : BinOp} {t : TypeId} {xo yo : Operand} {k : IntKind} {n : Int} {y : Value} : (eqGuard op t xo yo (.int k n) y).run P w = .ok () w := by
  unfold eqGuard; cases op <;> cases y <;> rfl
theorem eqGuard_str {op : BinOp} {t : TypeId} {xo yo : Operand} {s : ByteArray} {y : Value} : (eqGuard op t xo yo (.string s) y).run P w = .ok () w := by
  unfold eqGuard; cases op <;> cases y <;> rfl
theorem binOp_eq {t : TypeId} {x y : Value} (h1 : ∀ k n, x ≠ .int k n) (h2 : ∀ s, x ≠ .string s) (h3 : ∀ k n, x ≠ .float k n) (h4 : ∀ k n m, x ≠ .complex k n m) :
    binOp .eql t x y = (do pure (.bool (← Op.equal t x y))) ∧ binOp .neq t x y = (do pure (.bool (!(← Op.equal t x y)))) := by
  constructor <;> cases x <;> first | rfl | exact (h1 _ _ rfl).elim | exact (h2 _ rfl).elim | exact (h3 _ _ rfl).elim | exact (h4 _ _ _ rfl).elim
theorem bytes_append (s s' : ByteArray) : bytesOf (s ++ s') = bytesOf s ++ bytesOf s' := by simp [bytesOf]
theorem binJ_ok {op : BinOp} {t : TypeId} {jx jy : JV} {x y : Value} {K : K1 R} (h : Rep S w0 E st a w) (hx : RV E st.H jx x) (hy : RV E st.H jy y) (hK : binJ P op t jx jy st K = some r) (xo yo : Operand) :
    ∃ v, (do eqGuard op t xo yo x y; binOp op t x y : Sem Value).run P w = .ok v w ∧ Out K r S w0 st a v w := by
  unfold binJ at hK
  split at hK
  · rename_i k n k' n'
    obtain ⟨rfl, hn⟩ := RV_int hx
    obtain ⟨rfl, hn'⟩ := RV_int hy
    rw [Sem.run_bind, eqGuard_int, Result.andThen_ok]
    split at hK
    · split at hK
      · cases hK
      · rename_i hb
        exact ⟨_, by simp only [binOp, Op.shift, if_neg hb, Sem.run_pure]; rfl, .same h hK (int_RV (wrap_in _ _))⟩
    · split at hK
      · cases hK
      · rename_i hb
        exact ⟨_, by simp only [binOp, Op.shift, if_neg hb, Sem.run_pure]; rfl, .same h hK (int_RV (fdiv_in hn))⟩
    · rename_i o1 o2
      split at hK
      · rename_i hk; subst hk
        exact intOp_ok h hK hn ⟨fun e => o1 e, fun e => o2 e⟩ t
      · cases hK
  · rename_i l m
    obtain ⟨s, e1, rfl, h1⟩ := hx; cases e1
    obtain ⟨s', e2, rfl, h2⟩ := hy; cases e2
    rw [Sem.run_bind, eqGuard_str, Result.andThen_ok]
    split at hK
    · refine ⟨.bool (decide (bytesOf s = bytesOf s')), ?_, .same h hK bool_RV⟩
      rw [← bytes_eq]; rfl
    · refine ⟨.bool (!decide (bytesOf s = bytesOf s')), ?_, .same h hK bool_RV⟩
      rw [← bytes_eq]; rfl
    · split at hK
      · rename_i hl
        rw [bytes_len, bytes_len] at hl
        refine ⟨.string (s ++ s'), ?_, .same h hK ⟨_, rfl, (bytes_append _ _).symm, by rw [List.length_append, bytes_len, bytes_len]; exact hl⟩⟩
        have : ¬ ((s.size + s'.size : Nat) : Int) > IntKind.i64.max := by
          show ¬ _ > (9223372036854775807 : Int); omega
        simp only [binOp, Op.stringOp, if_neg this, Sem.run_pure]
      · cases hK
    · cases hK
  · split at hK
    · split at hK
      · rename_i b hb
        obtain ⟨g1, g2, g3, g4, g5, g6⟩ := eqlJ_ok (P := P) h hb hx hy xo yo .eql (.inl rfl)
        refine ⟨.bool b, ?_, .same h hK bool_RV⟩
        rw [Sem.run_bind, g1, Result.andThen_ok, (binOp_eq g3 g4 g5 g6).1, Sem.run_bind, g2]; rfl
      · cases hK
    · split at hK
      · rename_i b hb
        obtain ⟨g1, g2, g3, g4, g5, g6⟩ := eqlJ_ok (P := P) h hb hx hy xo yo .neq (.inr rfl)
        refine ⟨.bool (!b), ?_, .same h hK bool_RV⟩
        rw [Sem.run_bind, g1, Result.andThen_ok, (binOp_eq g3 g4 g5 g6).2, Sem.run_bind, g2]; rfl
      · cases hK
    · cases hK
theorem opnds_ok (h : Rep S w0 E st a w) : ∀ (l : List Operand), RVL E st.H (l.map (opndJ st)) (l.map a.eval)
  | [] => rfl
  | x :: l => ⟨_, _, rfl, opnd_ok h x, opnds_ok h l⟩
theorem parts_ok (h : Rep S w0 E st a w) : ∀ (l : List (Nat × Operand)), RPs E st.H (l.map fun p => (p.1, opndJ st p.2)) (l.map fun p => (p.1, a.eval p.2))
  | [] => rfl
  | x :: l => ⟨_, _, rfl, opnd_ok h x.2, parts_ok h l⟩
theorem fold_max : ∀ {l : List JV} {vs : List Value} {jx : JV} {x : Value} {K : K1 R}, Rep S w0 E st a w → RV E st.H jx x → RVL E st.H l vs → foldBin .gtr jx l st K = some r → ∃ v, (vs.foldlM Builtin.max2 x).run P w = .ok v w ∧ Out K r S w0 st a v w
  | [], vs, jx, x, K, h, hx, hl, hK => by
    simp only [RVL] at hl; subst hl
    have : foldBin .gtr jx [] st K = K jx st := by cases jx <;> rfl
    rw [this] at hK
    exact ⟨x, rfl, .same h hK hx⟩
  | y :: l, vs, jx, x, K, h, hx, hl, hK => by
    obtain ⟨v, b, rfl, hy, hb⟩ := hl
    cases jx <;> cases y <;> simp only [foldBin] at hK <;> try (cases hK; done)
    rename_i k n k' n'
    cases hk : (k == k') with
    | false => rw [hk] at hK; cases hK
    | true =>
      rw [hk] at hK; simp only [cond_true] at hK
      have hk := eq_of_beq hk; subst hk
      obtain ⟨rfl, hn⟩ := RV_int hx
      obtain ⟨rfl, hn'⟩ := RV_int hy
      have hnew : RV E st.H (.int k (if n' > n then n' else n)) (.int k (if n' > n then n' else n)) := int_RV (by split <;> assumption)
      obtain ⟨v, q1, q2⟩ := fold_max h hnew hb hK
      refine ⟨v, ?_, q2⟩
      rw [List.foldlM_cons, Sem.run_bind]
      exact q1
theorem fold_min : ∀ {l : List JV} {vs : List Value} {jx : JV} {x : Value} {K : K1 R}, Rep S w0 E st a w → RV E st.H jx x → RVL E st.H l vs → foldBin .lss jx l st K = some r → ∃ v, (vs.foldlM Builtin.min2 x).run P w = .ok v w ∧ Out K r S w0 st a v w
  | [], vs, jx, x, K, h, hx, hl, hK => by
    simp only [RVL] at hl; subst hl
    have : foldBin .lss jx [] st K = K jx st := by cases jx <;> rfl
    rw [this] at hK
    exact ⟨x, rfl, .same h hK hx⟩
  | y :: l, vs, jx, x, K, h, hx, hl, hK => by
    obtain ⟨v, b, rfl, hy, hb⟩ := hl
    cases jx <;> cases y <;> simp only [foldBin] at hK <;> try (cases hK; done)
    rename_i k n k' n'
    cases hk : (k == k') with
    | false => rw [hk] at hK; cases hK
    | true =>
      rw [hk] at hK; simp only [cond_true] at hK
      have hk := eq_of_beq hk; subst hk
      obtain ⟨rfl, hn⟩ := RV_int hx
      obtain ⟨rfl, hn'⟩ := RV_int hy
      have hnew : RV E st.H (.int k (if n' < n then n' else n)) (.int k (if n' < n then n' else n)) := int_RV (by split <;> assumption)
      obtain ⟨v, q1, q2⟩ := fold_min h hnew hb hK
      refine ⟨v, ?_, q2⟩
      rw [List.foldlM_cons, Sem.run_bind]
      exact q1
def CallOK (P : Program) (C : CallJ R) : Prop :=
  ∀ f args (st : St) K (r : R), C f args st K = some r → ∀ S w0 E a w margs, Rep S w0 E st a w → RVL E st.H args margs → ∃ fn, P.funcs[f]? = some fn ∧ fn.body.isSome = true ∧ fn.name ≠ "runtime.NumGoroutine" ∧
    Calls P f margs.toArray w fun e w' => ∃ v, e = .returned v ∧ Out K r S w0 st a v w'
theorem Lands.of_ok {N : Value → World → Prop} {s : Sem Value} {v : Value} {w' : World} (h : s.run P w = .ok v w') (hn : N v w') : Lands P N ((do pure (.value (← s)) : Sem Next).run P w) := by
  rw [Sem.run_bind, h]; exact hn
theorem RVL_map {l : List JV} {us : List Value} : ∀ {l' : List JV} {us' : List Value}, RVL E H l us → RVL E H l' us' → RVL E H (l ++ l') (us ++ us') := by
  induction l generalizing us with
  | nil => intro l' us' h h'; simp only [RVL] at h; subst h; simpa using h'
  | cons c r ih => intro l' us' h h'; obtain ⟨v, b, rfl, h1, h2⟩ := h; exact ⟨v, b ++ us', rfl, h1, ih h2 h'⟩
theorem RVl_RVL : ∀ {l : List JV} {us : List Value}, RVl E H l us → RVL E H l us
  | [], _, h => h
  | _ :: _, _, ⟨v, b, e, hf, hc, hr⟩ => ⟨v, b, e, flat_RV hf hc, RVl_RVL hr⟩
theorem capt_iff {v : JV} (h : v.capt = true) : v.flat = true ∧ v ≠ .junk := by cases v <;> first | exact ⟨h, by simp⟩ | (cases h)
theorem RVL_RVl : ∀ {l : List JV} {us : List Value}, RVL E H l us → l.all JV.capt = true → RVl E H l us
  | [], _, h, _ => h
  | c :: r, us, ⟨v, b, e, hc, hr⟩, ha => by
    simp only [List.all_cons, Bool.and_eq_true] at ha
    obtain ⟨h1, h2⟩ := capt_iff ha.1
    exact ⟨v, b, e, h1, RV_flat h1 h2 hc, RVL_RVl hr ha.2⟩
theorem opJ_ok {C : CallJ R} (hC : CallOK P C) {o : Oper} {K : K1 R} (h : Rep S w0 E st a w) (hK : opJ P C o.op o.type st K = some r) :
    Lands P (fun v w' => Out K r S w0 st a v w') ((execOp a.eval o).run P w) := by
  cases ho : o.op <;> simp only [ho, opJ] at hK <;> (try (cases hK; done)) <;> simp only [execOp, ho]
  case move x => exact Out.same h hK (opnd_ok h x)
  case assign x => exact Out.same h hK (opnd_ok h x)
  case pick c x y =>
    obtain ⟨b, hb, hK⟩ := asBoolK_inv hK
    have hc := opnd_ok h c
    rw [hb] at hc
    have hc' : a.eval c = .bool b := RV_bool hc
    rw [hc']
    cases b with
    | true => exact Out.same h hK (opnd_ok h x)
    | false => exact Out.same h hK (opnd_ok h y)
  case alloc t =>
    split at hK
    · rename_i z hz
      obtain ⟨i, zv, hi, hzv, hzr⟩ := zeroJ_ok hz
      have hzc := hzr E st.H
      refine Lands.of_ok (v := .pointer (some ⟨w.heap.size, 0, none⟩)) (w' := w.alloc (.cells zv.cells t)) ?_ ?_
      · simp only [Instr.alloc, Sem.run_bind, run_zero hi hzv, Result.andThen_ok, newVar, newRow, run_newObj, Sem.run_pure]; rfl
      · exact made_ok h (.box z true) rfl zv.cells.toList zv.cells t 0 0 (.inl (Nat.le_refl _)) List.take_length (by simp) hzc (ptr_new h _ _) hK
    · cases hK
  case box t x =>
    have hx := opnd_ok h x
    split at hK
    · cases hK
    · cases hK
    · rename_i ht hj
      have hcells := RV_cells (fun e => hj e) (fun q e => ht q e) hx
      refine Lands.of_ok (v := .pointer (some ⟨w.heap.size, 0, none⟩)) (w' := w.alloc (.cells (a.eval x).cells t)) ?_ ?_
      · simp only [Instr.box, Sem.run_bind, newVar, newRow, run_newObj, Result.andThen_ok, Sem.run_pure]; rfl
      · exact made_ok h (.box (opndJ st x).cells true) rfl (a.eval x).cells.toList (a.eval x).cells t 0 0 (.inl (Nat.le_refl _)) List.take_length (by simp) hcells (ptr_new h _ _) hK
  case build t ps =>
    obtain ⟨v, hr, ho⟩ := buildJ_ok (P := P) (vs := ps.map fun (i, x) => (i, a.eval x)) h (by rw [Array.toList_map]; exact parts_ok h ps.toList) hK
    exact Lands.of_ok hr ho
  case buildSlice t n ps =>
    obtain ⟨v, w', hr, ho⟩ := buildSliceJ_ok (P := P) (vs := ps.map fun (i, x) => (i, a.eval x)) h (by rw [Array.toList_map]; exact parts_ok h ps.toList) hK
    exact Lands.of_ok hr ho
  case load t x =>
    obtain ⟨v, hr, ho⟩ := loadJ_ok h (opnd_ok h x) hK
    exact Lands.of_ok hr ho
  case store t x y =>
    obtain ⟨w', hr, ho⟩ := storeJ_ok h (opnd_ok h x) (opnd_ok h y) hK
    rw [Sem.run_bind, hr]; exact ho
  case binOp op t x y t' =>
    obtain ⟨v, hr, ho⟩ := binJ_ok (P := P) h (opnd_ok h x) (opnd_ok h y) hK x y
    exact Lands.of_ok hr ho
  case unOp op t x =>
    have hx := opnd_ok h x
    split at hK
    · rename_i b hb
      rw [hb] at hx
      have hx' : a.eval x = .bool b := RV_bool hx
      rw [hx']
      exact Lands.of_ok rfl (Out.same h hK bool_RV)
    · rename_i k n hb
      rw [hb] at hx
      obtain ⟨hx', _⟩ := RV_int hx
      rw [hx']
      exact Lands.of_ok rfl (Out.same h hK (int_RV (wrap_in _ _)))
    · rename_i k n hb
      rw [hb] at hx
      obtain ⟨hx', _⟩ := RV_int hx
      rw [hx']
      exact Lands.of_ok rfl (Out.same h hK (int_RV (wrap_in _ _)))
    · cases hK
  case convert src dst x =>
    obtain ⟨v, w', hr, ho⟩ := convJ_ok h (opnd_ok h x) hK
    exact Lands.of_ok hr ho
  case nilCheck x =>
    have hx := opnd_ok h x
    split at hK
    · rename_i id off hj
      rw [hj] at hx
      split at hK
      · rename_i cs rw ho
        obtain ⟨hn, y, e, h1, h2⟩ := hx
        have h3 := h2 (by rw [ho]; rfl)
        simp only [List.cons.injEq, and_true] at e
        subst e
        rw [h3]
        exact Out.same h hK ⟨hn, _, rfl, rfl, fun _ => rfl⟩
      · cases hK
    · cases hK
  case fieldAddr t x f =>
    obtain ⟨v, hr, ho⟩ := fieldAddrJ_ok h (opnd_ok h x) hK
    exact Lands.of_ok hr ho
  case field t x f =>
    obtain ⟨v, hr, ho⟩ := fieldJ_ok h (opnd_ok h x) hK
    exact Lands.of_ok hr ho
  case indexAddr t x i =>
    obtain ⟨v, hr, ho⟩ := indexAddrJ_ok h (opnd_ok h x) (opnd_ok h i) hK
    exact Lands.of_ok hr ho
  case index t x i =>
    obtain ⟨v, hr, ho⟩ := indexJ_ok h (opnd_ok h x) (opnd_ok h i) hK
    exact Lands.of_ok hr ho
  case makeFunc fn first caps =>
    cases fn with
    | func f =>
      simp only at hK
      split at hK
      · rename_i hfirst
        cases hall0 : (!Nat.beq f YG && (caps.toList.map (opndJ st)).all JV.capt) with
        | false => rw [hall0] at hK; cases hK
        | true =>
          rw [hall0] at hK; simp only [cond_true] at hK
          simp only [Bool.and_eq_true, Bool.not_eq_true'] at hall0
          obtain ⟨hyg, hall⟩ := hall0
          have hl := RVL_RVl (opnds_ok h caps.toList) hall
          have e1 : first.map a.eval = #[] := by
            apply Array.ext'; rw [Array.toList_map, hfirst]; rfl
          refine Lands.of_ok (v := .func (.func f) #[] (caps.map a.eval)) (w' := w) ?_ (Out.same h hK ⟨_, (by rw [fnV_of hyg]), by rw [Array.toList_map]; exact hl⟩)
          rw [e1]; rfl
      · cases hK
    | method n => cases hK
    | methodOf t n => cases hK
    | via t p f q => cases hK
    | yield l => cases hK
  case makeSlice t n c =>
    obtain ⟨v, w', hr, ho⟩ := makeJ_ok h (opnd_ok h n) (opnd_ok h c) hK
    exact Lands.of_ok hr ho
  case slice t x lo hi mx =>
    split at hK
    · rename_i hmx
      have side : ∀ (o : Option Operand), match o.map (opndJ st), o.map a.eval with
          | none, none => True
          | some j, some v => RV E st.H j v
          | _, _ => False := by
        intro o; cases o with
        | none => trivial
        | some x => exact opnd_ok h x
      obtain ⟨v, hr, ho⟩ := sliceJ_ok (P := P) h (opnd_ok h x) (side lo) (side hi) hK
      exact Lands.of_ok hr ho
    · cases hK
  case extract t i =>
    have ht := opnd_ok h t
    split at hK
    · rename_i vs hvs
      rw [hvs] at ht
      obtain ⟨xs, hx, hl⟩ := ht
      split at hK
      · rename_i v hv
        have key : ∀ (vs : List JV) (us : List Value) (i : Nat) (v : JV), RV1l E st.H vs us → vs[i]? = some v → ∃ x, us[i]? = some x ∧ RV1 E st.H v x := by
          intro vs
          induction vs with
          | nil => intro us i v h h'; simp at h'
          | cons c r ih =>
            intro us i v h h'
            obtain ⟨y, b, rfl, h1, h2⟩ := h
            cases i with
            | zero => simp only [List.getElem?_cons_zero, Option.some.injEq] at h'; subst h'; exact ⟨y, rfl, h1⟩
            | succ i => simp only [List.getElem?_cons_succ] at h' ⊢; exact ih _ _ _ h2 h'
        obtain ⟨y, hy, hr⟩ := key _ _ _ _ hl hv
        have hnt : ∀ q, v ≠ .tup q := fun q e => by subst e; simp only [RV1, RC] at hr
        have hx' : a.eval t = .tuple xs := hx
        refine Lands.of_ok (v := y) (w' := w) ?_ (Out.same h hK (by rw [RV_tup hnt]; exact hr))
        rw [hx']
        simp only [Instr.extract]
        rw [← Array.getElem?_toList, hy]; rfl
      · cases hK
    · cases hK
  case call c =>
    split at hK
    · rename_i b hb
      split at hK
      · rename_i x hargs
        obtain ⟨v, hr, ho⟩ := lenJ_ok (P := P) (ty := o.type) (argTypes := c.argTypes) h (opnd_ok h x) hK
        have e1 : c.args.map a.eval = #[a.eval x] := by apply Array.ext'; rw [Array.toList_map, hargs]; rfl
        simp only [resolve, hb, e1, Sem.run_bind, Sem.run_pure, Result.andThen_ok, invoke, builtin]
        rw [hr]; exact ho
      · rename_i x y hargs
        split at hK
        · rename_i t ht
          obtain ⟨v, w', hr, ho⟩ := appendJ_ok (P := P) (ty := o.type) (argTypes := c.argTypes) h ht (opnd_ok h x) (opnd_ok h y) hK
          have e1 : c.args.map a.eval = #[a.eval x, a.eval y] := by apply Array.ext'; rw [Array.toList_map, hargs]; rfl
          simp only [resolve, hb, e1, Sem.run_bind, Sem.run_pure, Result.andThen_ok, invoke, builtin]
          rw [hr]; exact ho
        · cases hK
      · rename_i x l hargs
        obtain ⟨v, hr, ho⟩ := fold_max (P := P) h (opnd_ok h x) (opnds_ok h l) hK
        have e1 : (c.args.map a.eval).toList = a.eval x :: l.map a.eval := by rw [Array.toList_map, hargs]; rfl
        simp only [resolve, hb, Sem.run_bind, Sem.run_pure, Result.andThen_ok, invoke, builtin, Builtin.max_, e1]
        rw [hr]; exact ho
      · rename_i x l hargs
        obtain ⟨v, hr, ho⟩ := fold_min (P := P) h (opnd_ok h x) (opnds_ok h l) hK
        have e1 : (c.args.map a.eval).toList = a.eval x :: l.map a.eval := by rw [Array.toList_map, hargs]; rfl
        simp only [resolve, hb, Sem.run_bind, Sem.run_pure, Result.andThen_ok, invoke, builtin, Builtin.min_, e1]
        rw [hr]; exact ho
      · cases hK
    · rename_i f hf
      have hfv := opnd_ok h f
      split at hK
      · rename_i g caps hg
        rw [hg] at hfv
        obtain ⟨cs, e1, hcaps⟩ := hfv
        cases hyg : Nat.beq g YG with
        | true => rw [hyg] at hK; cases hK
        | false =>
        rw [hyg] at hK; simp only [cond_false] at hK
        rw [fnV_of hyg] at e1
        have e1' : a.eval f = .func (.func g) #[] cs := by simpa using e1
        obtain ⟨fn, q1, q2, q3, q4⟩ := hC g _ st K r hK S w0 E a w _ h (RVL_map (opnds_ok h c.args.toList) (RVl_RVL hcaps))
        have e2 : (c.args.toList.map a.eval ++ cs.toList).toArray = (c.args.map a.eval) ++ cs := by apply Array.ext'; simp
        rw [e2] at q4
        have q3' : (fn.name == "runtime.NumGoroutine") = false := by simpa using q3
        have q2' : fn.body.isNone = false := by cases hb : fn.body <;> simp_all
        simp only [resolve, hf, Deferred.ofValue, e1', Sem.run_bind, Sem.run_pure, Result.andThen_ok, invoke, callFunc, run_program, q1, q3', q2', Bool.false_eq_true, if_false, Array.empty_append]
        exact q4
      · cases hK
    · cases hK
end Go.Eng

namespace Go.Eng
variable {R : Type} {P : Program} {S : Sc} {w0 w : World} {E : En} {st : St} {a : Act} {r : R} {H : Nat → Option JObj}
theorem Rep.put (h : Rep S w0 E st a w) {jv : JV} {v : Value} {dst : Option Nat} (hv : RV E st.H jv v) (hd : ∀ d, dst = some d → d < a.tmps.size) : Rep S w0 E (st.set dst jv) (a.put dst v) w := by
  cases dst with
  | none => exact h
  | some d =>
    have hd := hd d rfl
    refine { h.toRepH with env := fun i => ?_, defers := h.defers }
    show RV E st.H (upd st.env d jv i) ((a.tmps.setIfInBounds d v).getD i undef)
    by_cases hi : i = d
    · subst hi
      rw [upd_same]
      have : (a.tmps.setIfInBounds i v).getD i undef = v := by
        rw [Array.getD_eq_getD_getElem?, Array.getElem?_setIfInBounds_self_of_lt hd]; rfl
      rw [this]; exact hv
    · rw [upd_ne _ _ hi]
      have : (a.tmps.setIfInBounds d v).getD i undef = a.tmps.getD i undef := by
        rw [Array.getD_eq_getD_getElem?, Array.getElem?_setIfInBounds_ne (fun e => hi e.symm), ← Array.getD_eq_getD_getElem?]
      rw [this]; exact h.env i
theorem put_size (a : Act) (dst : Option Nat) (v : Value) : (a.put dst v).tmps.size = a.tmps.size := by cases dst <;> simp [Act.put]
theorem Lands.upon {N : Value → World → Prop} {o : Oper} {next : Act → World → Prop} {Q : Exit → Act → World → Prop} {res : Result Next} (h : Lands P N res) (hn : ∀ v w', N v w' → next (a.put o.dst v) w') : o.upon P a next Q res := by
  cases res with
  | halt x w' => exact h.elim
  | ok n w' =>
    cases n <;> simp only [Lands] at h <;> try exact h.elim
    · exact hn _ _ h
    · exact hn _ _ h
    · rw [Oper.upon_enter]
      refine h.mono ?_
      rintro e w'' ⟨v, rfl, hv⟩
      exact hn _ _ hv
def dstOk (n : Nat) (o : Oper) : Bool := match o.dst with
  | some d => Nat.blt d n
  | none => true
theorem dstOk_ok {n : Nat} {o : Oper} (h : dstOk n o = true) : ∀ d, o.dst = some d → d < n := by
  intro d hd
  unfold dstOk at h; rw [hd] at h
  exact Nat.le_of_ble_eq_true h
theorem RV_bool_at (h : Rep S w0 E st a w) {d : Nat} {b : Bool} (hb : st.env d = .bool b) : a.tmps[d]? = some (.bool b) := by
  have := h.env d
  rw [hb] at this
  have := RV_bool this
  rw [Array.getD_eq_getD_getElem?] at this
  cases hx : a.tmps[d]? with
  | none => rw [hx] at this; cases this
  | some v => rw [hx] at this; simp only [Option.getD_some] at this; rw [this]
theorem Rep.sure (h : Rep S w0 E st a w) {d : Nat} {b : Bool} (hb : st.env d = .bool b) : Rep S w0 E (st.set (some d) (.bool b)) a w := by
  refine { h.toRepH with env := fun i => ?_, defers := h.defers }
  show RV E st.H (upd st.env d (.bool b) i) _
  by_cases hi : i = d
  · subst hi; rw [upd_same, ← hb]; exact h.env i
  · rw [upd_ne _ _ hi]; exact h.env i
theorem yielded_un {all : Array Oper} {j d : Nat} (hd : (all[j]?).bind (·.dst) = some d) (h : Rep S w0 E st a w) (hu : st.env d = .tup []) : yielded all a.tmps j = none := by
  unfold yielded; rw [hd]; simp only [Option.bind_some]
  have := h.env d
  rw [hu] at this
  obtain ⟨xs, e, _⟩ := this
  rw [Array.getD_eq_getD_getElem?] at e
  cases hx : a.tmps[d]? with
  | none => rfl
  | some v => rw [hx] at e; simp only [Option.getD_some] at e; rw [e]
theorem opsJ_ok {C : CallJ R} (hC : CallOK P C) {all : Array Oper} {Q : Exit → Act → World → Prop} {K : St → Option R} {n : Nat} (hQ : ∀ E' st' a' w', K st' = some r → Rep S w0 E' st' a' w' → a'.tmps.size = n → Q .normal a' w') :
    ∀ {l : List Oper} {st : St} {E : En} {a : Act} {w : World}, l.all (dstOk n) = true → Rep S w0 E st a w → a.tmps.size = n → opsJ P C all l st K = some r → wpList P all Q l a w
  | [], st, E, a, w, hl, h, hn, hK => hQ E st a w hK h hn
  | o :: l, st, E, a, w, hl, h, hn, hK => by
    simp only [List.all_cons, Bool.and_eq_true] at hl
    have hd := dstOk_ok hl.1
    have step : ∀ {st1 : St}, Rep S w0 E st1 a w → (opJ P C o.op o.type st1 fun v st' => opsJ P C all l (st'.set o.dst v) K) = some r → o.wp P a w (wpList P all Q l) Q := by
      intro st1 h1 hK1
      refine (opJ_ok hC h1 hK1).upon fun v w' hv => ?_
      obtain ⟨E', jv, st', q1, q2, q3, q4⟩ := hv
      exact opsJ_ok hC hQ hl.2 (q4.put q3 (fun d e => by rw [hn]; exact hd d e)) (by rw [put_size]; exact hn) q1
    unfold wpList
    simp only [opsJ] at hK
    cases hg : o.guard with
    | none =>
      rw [hg] at hK
      rw [if_pos (by simp [Region.wanted, hg])]
      exact .inl (step h hK)
    | some p =>
      obtain ⟨j, want⟩ := p
      rw [hg] at hK; simp only at hK
      split at hK
      · cases hK
      · rename_i d hdst
        split at hK
        · rename_i hun
          have hy : yielded all a.tmps j = none := yielded_un hdst h hun
          rw [if_neg (by simp [Region.wanted, hg, hy])]
          exact opsJ_ok hC hQ hl.2 (h.put (dst := o.dst) (jv := .tup []) (v := undef) ⟨_, rfl, rfl⟩ (fun d e => by rw [hn]; exact hd d e)) (by rw [put_size]; exact hn) hK
        replace hK := asBoolK_inv hK
        obtain ⟨b, hb, hK⟩ := hK
        have hy : yielded all a.tmps j = some b := by
          unfold yielded; rw [hdst]; simp only [Option.bind_some]; rw [RV_bool_at h hb]
        have hs := h.sure hb
        cases hbw : (b == want) with
        | true =>
          rw [hbw] at hK; simp only [cond_true] at hK
          have := eq_of_beq hbw; subst this
          rw [if_pos (by simp [Region.wanted, hg, hy])]
          exact .inl (step hs hK)
        | false =>
          rw [hbw] at hK; simp only [cond_false] at hK
          have hne : b ≠ want := fun e => by rw [e] at hbw; simp at hbw
          rw [if_neg (by simp [Region.wanted, hg, hy, hne])]
          exact opsJ_ok hC hQ hl.2 (hs.put (dst := o.dst) (jv := .tup []) (v := undef) ⟨_, rfl, rfl⟩ (fun d e => by rw [hn]; exact hd d e)) (by rw [put_size]; exact hn) hK
end Go.Eng

namespace Go.Eng
variable {R : Type} {P : Program}
abbrev PK := JV × St
def pk (v : JV) (st : St) : Option PK := some (v, st)
def on (x : Option PK) (K : K1 R) : Option R := match x with
  | some p => K p.1 p.2
  | none => none
theorem on_pk (v : JV) (st : St) (K : K1 R) : on (pk v st) K = K v st := rfl
theorem on_none (K : K1 R) : on none K = none := rfl
theorem on_ite {c : Prop} [Decidable c] (a b : Option PK) (K : K1 R) : on (if c then a else b) K = if c then on a K else on b K := by split <;> rfl
theorem on_cond (c : Bool) (a b : Option PK) (K : K1 R) : on (cond c a b) K = cond c (on a K) (on b K) := by cases c <;> rfl
theorem intOp_nat {op : BinOp} {k : IntKind} {a b : Int} {st : St} {K : K1 R} : intOp op k a b st K = on (intOp op k a b st pk) K := by unfold intOp; cases op <;> (repeat' (first | rfl | (simp only [on_pk, on_none, on_ite, on_cond]; done) | split))
theorem asBoolK_nat {v : JV} {K : Bool → Option R} {K' : Bool → Option PK} {K'' : K1 R} (h : ∀ b, K b = on (K' b) K'') : asBoolK v K = on (asBoolK v K') K'' := by
  unfold asBoolK; cases v <;> first | rfl | (simp only []; rw [h, h]; split <;> rfl)
theorem binJ_nat {op : BinOp} {t : TypeId} {x y : JV} {st : St} {K : K1 R} : binJ P op t x y st K = on (binJ P op t x y st pk) K := by
  unfold binJ; (repeat' (first | rfl | (simp only [on_pk, on_none, on_ite, on_cond]; done) | split))
  all_goals first | (rw [← intOp_nat]) | skip
theorem viewJ_nat {a : JV} {st : St} {K : List JV → Option R} {K' : List JV → Option PK} {K'' : K1 R} (h : ∀ b, K b = on (K' b) K'') : viewJ a st K = on (viewJ a st K') K'' := by
  unfold viewJ; simp only [h]; (repeat' (first | rfl | (simp only [on_pk, on_none, on_ite, on_cond]; done) | split))
theorem partJ_nat {t : TypeId} {cs : List JV} {st : St} {K : K1 R} : partJ P t cs st K = on (partJ P t cs st pk) K := by unfold partJ; (repeat' (first | rfl | (simp only [on_pk, on_none, on_ite, on_cond]; done) | split))
theorem loadJ_nat {t : TypeId} {a : JV} {st : St} {K : K1 R} : loadJ P t a st K = on (loadJ P t a st pk) K := viewJ_nat fun _ => partJ_nat
theorem store1J_nat {t : TypeId} {a v : JV} {st : St} {K : K1 R} : store1J P t a v st K = on (store1J P t a v st pk) K := by unfold store1J; rw [on_cond]; congr 1; (repeat' (first | rfl | (simp only [on_pk, on_none, on_ite, on_cond]; done) | split))
theorem storeJ_nat {t : TypeId} {a v : JV} {st : St} {K : K1 R} : storeJ P t a v st K = on (storeJ P t a v st pk) K := by unfold storeJ; exact store1J_nat
theorem lenJ_nat {t : Option TypeId} {v : JV} {st : St} {K : K1 R} : lenJ P t v st K = on (lenJ P t v st pk) K := by unfold lenJ; (repeat' (first | rfl | (simp only [on_pk, on_none, on_ite, on_cond]; done) | split))
theorem withL_nat {e : EK} {v : JV} {st : St} {K : List e.T → Option R} {K' : List e.T → Option PK} {K'' : K1 R} (h : ∀ b, K b = on (K' b) K'') : withL e v st K = on (withL e v st K') K'' := by unfold withL; simp only [h]; (repeat' (first | rfl | (simp only [on_pk, on_none, on_ite, on_cond]; done) | split))
theorem withM_nat {e : EK} {v : JV} {st : St} {K : List e.T → Option R} {K' : List e.T → Option PK} {K'' : K1 R} (h : ∀ b, K b = on (K' b) K'') : withM e v st K = on (withM e v st K') K'' := by
  unfold withM; split
  · split
    · rw [on_ite]; congr 1
      split
      · exact h _
      · rfl
    · exact withL_nat h
  · exact withL_nat h
theorem appendJ_nat {t : TypeId} {t2 : Option TypeId} {x y : JV} {st : St} {K : K1 R} : appendJ P t t2 x y st K = on (appendJ P t t2 x y st pk) K := by
  unfold appendJ; split
  · split
    · rw [on_cond]; congr 1
      refine withM_nat fun m => ?_
      cases x <;> (try dsimp only) <;> (repeat' (first | rfl | (simp only [on_pk, on_none, on_ite, on_cond]; done) | split))
    · rfl
  · rfl
theorem pickB_nat {id off : Nat} {i : Int} {st : St} {K : K1 R} : ∀ {f k : Nat}, pickB id off i st K k f = on (pickB id off i st pk k f) K
  | 0, k => rfl
  | f + 1, k => by
    unfold pickB
    rw [on_ite]
    congr 1
    exact pickB_nat
theorem pickD_nat {id off i : Nat} {st : St} {K : K1 R} : ∀ {f p : Nat}, pickD id off i st K p f = on (pickD id off i st pk p f) K
  | 0, p => rfl
  | f + 1, p => by
    unfold pickD
    rw [on_ite]
    congr 1
    exact pickD_nat
theorem indexAddrJ_nat {t : TypeId} {x i : JV} {st : St} {K : K1 R} : indexAddrJ P t x i st K = on (indexAddrJ P t x i st pk) K := by unfold indexAddrJ; (repeat' (first | rfl | (simp only [on_pk, on_none, on_ite, on_cond]; done) | (simp only [on_none, on_ite, on_cond, ← pickB_nat, ← pickD_nat]; done) | split))
theorem indexJ_nat {t : TypeId} {x i : JV} {st : St} {K : K1 R} : indexJ P t x i st K = on (indexJ P t x i st pk) K := by unfold indexJ; (repeat' (first | rfl | (simp only [on_pk, on_none, on_ite, on_cond]; done) | split))
theorem bnd_nat {v : Option JV} {K : Option Int → Option R} {K' : Option Int → Option PK} {K'' : K1 R} (h : ∀ b, K b = on (K' b) K'') : bnd v K = on (bnd v K') K'' := by unfold bnd; simp only [h]; (repeat' (first | rfl | (simp only [on_pk, on_none, on_ite, on_cond]; done) | split))
theorem cutK_nat {n : Nat} {lo hi : Option Int} {K : Unit → Option R} {K' : Unit → Option PK} {K'' : K1 R} (h : ∀ b, K b = on (K' b) K'') : cutK n lo hi K = on (cutK n lo hi K') K'' := by unfold cutK; simp only [h]; (repeat' (first | rfl | (simp only [on_pk, on_none, on_ite, on_cond]; done) | split))
theorem sliceJ_nat {t : TypeId} {x : JV} {lo hi : Option JV} {st : St} {K : K1 R} : sliceJ P t x lo hi st K = on (sliceJ P t x lo hi st pk) K := by
  unfold sliceJ
  refine bnd_nat fun lo => bnd_nat fun hi => ?_
  repeat' (first | rfl | (exact cutK_nat fun _ => rfl) | (refine cutK_nat fun _ => ?_; split <;> rfl) | split)
  all_goals (rw [on_cond]; congr 1 <;> first | rfl | exact cutK_nat fun _ => rfl)
theorem convJ_nat {src dst : TypeId} {x : JV} {st : St} {K : K1 R} : convJ P src dst x st K = on (convJ P src dst x st pk) K := by
  unfold convJ; repeat' (first | rfl | (refine withL_nat fun m => ?_) | (rw [on_ite]; rfl) | split)
theorem makeJ_nat {t : TypeId} {n c : JV} {st : St} {K : K1 R} : makeJ P t n c st K = on (makeJ P t n c st pk) K := by unfold makeJ; (repeat' (first | rfl | (simp only [on_pk, on_none, on_ite, on_cond]; done) | split))
theorem buildJ_nat {t : TypeId} {ps : List (Nat × JV)} {st : St} {K : K1 R} : buildJ P t ps st K = on (buildJ P t ps st pk) K := by unfold buildJ; (repeat' (first | rfl | (simp only [on_pk, on_none, on_ite, on_cond]; done) | split))
theorem boxesJ_nat {el : TypeId} {z : List JV} {n : Nat} {ps : List (Nat × JV)} {st : St} {K : K1 R} : boxesJ P el z n ps st K = on (boxesJ P el z n ps st pk) K := by unfold boxesJ; (repeat' (first | rfl | (simp only [on_pk, on_none, on_ite, on_cond]; done) | split))
theorem buildSliceJ_nat {t : TypeId} {n : Nat} {ps : List (Nat × JV)} {st : St} {K : K1 R} : buildSliceJ P t n ps st K = on (buildSliceJ P t n ps st pk) K := by unfold buildSliceJ; (repeat' (first | rfl | exact boxesJ_nat | (simp only [on_pk, on_none, on_ite, on_cond]; done) | split))
theorem fieldJ_nat {t : TypeId} {x : JV} {f : Nat} {st : St} {K : K1 R} : fieldJ P t x f st K = on (fieldJ P t x f st pk) K := by
  unfold fieldJ; repeat' (first | rfl | exact partJ_nat | split)
theorem fieldAddrJ_nat {t : TypeId} {x : JV} {f : Nat} {st : St} {K : K1 R} : fieldAddrJ P t x f st K = on (fieldAddrJ P t x f st pk) K := by unfold fieldAddrJ; (repeat' (first | rfl | (simp only [on_pk, on_none, on_ite, on_cond]; done) | split))
theorem foldBin_nat {op : BinOp} : ∀ {l : List JV} {x : JV} {st : St} {K : K1 R}, foldBin op x l st K = on (foldBin op x l st pk) K
  | [], x, st, K => by cases x <;> rfl
  | y :: l, x, st, K => by
    cases x <;> cases y <;> first | rfl | (unfold foldBin; rw [on_cond]; congr 1; cases op <;> first | rfl | exact foldBin_nat)
def CallNat (C : CallJ R) (C' : CallJ PK) : Prop := ∀ f args st (K : K1 R), C f args st K = on (C' f args st pk) K
theorem opJ_nat {C : CallJ R} {C' : CallJ PK} (hC : CallNat C C') {o : Op} {t : TypeId} {st : St} {K : K1 R} : opJ P C o t st K = on (opJ P C' o t st pk) K := by
  unfold opJ
  cases o <;> try rfl
  case call c =>
    simp only []
    repeat' (first | rfl | exact lenJ_nat | exact appendJ_nat | exact foldBin_nat | (rw [on_cond]; congr 1; exact hC _ _ _ _) | split)
  case slice => simp only []; repeat' (first | rfl | exact sliceJ_nat | split)
  case unOp => simp only []; repeat' (first | rfl | exact intOp_nat | split)
  case pick => exact asBoolK_nat fun _ => rfl
  case build => exact buildJ_nat
  case buildSlice => exact buildSliceJ_nat
  case load => exact loadJ_nat
  case store => exact storeJ_nat
  case binOp => exact binJ_nat
  case convert => exact convJ_nat
  case fieldAddr => exact fieldAddrJ_nat
  case field => exact fieldJ_nat
  case indexAddr => exact indexAddrJ_nat
  case index => exact indexJ_nat
  case makeSlice => exact makeJ_nat
  case makeFunc fn first caps =>
    cases fn <;> first | rfl | (simp only []; repeat' (first | rfl | (rw [on_cond]; rfl) | split))
  all_goals (simp only []; repeat' (first | rfl | split))
end Go.Eng

namespace Go.Eng
variable {R : Type} {P : Program} {S : Sc} {w0 w : World} {E : En} {st : St} {a : Act} {r : R} {H : Nat → Option JObj} {nx : Nat}
def En.wim (E : En) (I : Option Bool → Nat → Option (Array Value)) : En := { E with im := I }
theorem Goes.wim {f : Nat → Option Nat} {E E' : En} {H H' : Nat → Option JObj} (G : Goes f E H E' H') (I : Option Bool → Nat → Option (Array Value)) : Goes f (E.wim I) H (E'.wim I) H' := ⟨G.at_, fun _ _ _ h => h⟩
theorem Goes.RVL {f : Nat → Option Nat} {E E' : En} {H H' : Nat → Option JObj} (G : Goes f E H E' H') : ∀ {v : List JV} {us : List Value}, RVL E H v us → RVL E' H' (renL f v) us
  | [], _, k => k
  | _ :: _, _, ⟨v, b, e, h1, h2⟩ => ⟨v, b, e, RV_ren G h1, G.RVL h2⟩
theorem SKR.monoT {E E' : En} (h : ∀ b c, E.im (some true) b = some c → E'.im (some true) b = some c) {s : SK} {x : s.T} {us : List Value} (k : SKR E s x us) : SKR E' s x us := by
  cases s <;> simp only [SKR] at k ⊢
  · exact k
  · exact k
  · exact k
  · obtain ⟨hi, hml, base, cap, hu, hc, hor⟩ := k
    refine ⟨hi, hml, base, cap, hu, hc, hor.imp id ?_⟩
    rintro ⟨b, o, hb, c, h1, h2⟩
    exact ⟨b, o, hb, c, h _ _ h1, h2⟩
  · exact k
theorem RTR.monoT {E E' : En} (h : ∀ b c, E.im (some true) b = some c → E'.im (some true) b = some c) : ∀ {ss : List SK} {x : RT ss} {us : List Value}, RTR E ss x us → RTR E' ss x us
  | [], _, _, k => k
  | [s], _, _, k => SKR.monoT h k
  | s :: t :: r, _, _, ⟨a, b, e, ha, hb⟩ => ⟨a, b, e, ha.monoT h, RTR.monoT h hb⟩
theorem EKR.monoT {E E' : En} (h : ∀ b c, E.im (some true) b = some c → E'.im (some true) b = some c) {e : EK} {x : e.T} {us : List Value} (k : EKR E e x us) : EKR E' e x us := by
  cases e with
  | one s => exact SKR.monoT h k
  | many ss => exact RTR.monoT h k
theorem EKL.monoT {E E' : En} (h : ∀ b c, E.im (some true) b = some c → E'.im (some true) b = some c) {e : EK} : ∀ {l : List e.T} {us : List Value}, EKL E e l us → EKL E' e l us
  | [], _, k => k
  | _ :: _, _, ⟨a, b, e, ha, hb⟩ => ⟨a, b, e, ha.monoT h, EKL.monoT h hb⟩
def Lvl (E : En) (I : Option Bool → Nat → Option (Array Value)) : Prop := ∀ (e : Bool) b c, E.im (some e) b = some c → I (some e) b = some c
mutual
theorem lvl_RC {I : Option Bool → Nat → Option (Array Value)} (h : Lvl E I) : ∀ (v : JV) (us : List Value), RC E H v us → RC (E.wim I) H v us
  | .int k n, us, k' => k'
  | .bool b, us, k' => k'
  | .str l, us, k' => k'
  | .nilp, us, k' => k'
  | .nils, us, k' => k'
  | .nilf, us, k' => k'
  | .ptr id off, us, k' => k'
  | .pdyn id off d, us, k' => k'
  | .pel id d c, us, k' => k'
  | .full id, us, k' => k'
  | .sl id off len, us, k' => k'
  | .lst esc e l, us, k' => by
    obtain ⟨hml, base, cap, hu, hc, vs, hk, hor⟩ := k'
    refine ⟨hml, base, cap, hu, hc, vs, hk.monoT (E' := E.wim I) (h true), hor.imp id ?_⟩
    rintro ⟨b, o, hb, c, h1, h2⟩
    exact ⟨b, o, hb, c, h _ _ _ h1, h2⟩
  | .pim esc cs, us, k' => by
    obtain ⟨b, o, vs, hu, hr, c, h1, h2⟩ := k'
    exact ⟨b, o, vs, hu, lvl_RCs h cs vs hr, c, h _ _ _ h1, h2⟩
  | .fn g caps, us, k' => by
    obtain ⟨cs, hu, hr⟩ := k'
    exact ⟨cs, hu, lvl_RVl h caps _ hr⟩
  | .arr k n l, us, k' => k'
  | .agg cs, us, k' => k'.elim
  | .tup cs, us, k' => k'.elim
  | .junk, us, k' => k'
theorem lvl_RCs {I : Option Bool → Nat → Option (Array Value)} (h : Lvl E I) : ∀ (v : List JV) (us : List Value), RCs E H v us → RCs (E.wim I) H v us
  | [], _, k => k
  | c :: r, us, ⟨x, y, e, h1, h2⟩ => ⟨x, y, e, lvl_RC h c x h1, lvl_RCs h r y h2⟩
theorem lvl_RVl {I : Option Bool → Nat → Option (Array Value)} (h : Lvl E I) : ∀ (v : List JV) (us : List Value), RVl E H v us → RVl (E.wim I) H v us
  | [], _, k => k
  | c :: r, us, ⟨x, y, e, hf, h1, h2⟩ => ⟨x, y, e, hf, lvl_RC h c [x] h1, lvl_RVl h r y h2⟩
end
theorem lvl_RV1 {I : Option Bool → Nat → Option (Array Value)} (h : Lvl E I) {v : JV} {u : Value} (k : RV1 E H v u) : RV1 (E.wim I) H v u := by
  cases v
  case junk => trivial
  case agg cs => obtain ⟨xs, e, k⟩ := k; exact ⟨xs, e, lvl_RCs h cs _ k⟩
  case arr k n l => exact k
  all_goals exact lvl_RC h _ [u] k
theorem lvl_RV1l {I : Option Bool → Nat → Option (Array Value)} (h : Lvl E I) : ∀ {v : List JV} {us : List Value}, RV1l E H v us → RV1l (E.wim I) H v us
  | [], _, k => k
  | _ :: _, _, ⟨x, y, e, h1, h2⟩ => ⟨x, y, e, lvl_RV1 h h1, lvl_RV1l h h2⟩
theorem lvl_RV {I : Option Bool → Nat → Option (Array Value)} (h : Lvl E I) {v : JV} {u : Value} (k : RV E H v u) : RV (E.wim I) H v u := by
  by_cases ht : ∃ vs, v = .tup vs
  · obtain ⟨vs, rfl⟩ := ht
    obtain ⟨xs, e, k⟩ := k; exact ⟨xs, e, lvl_RV1l h k⟩
  · have hv : ∀ vs, v ≠ .tup vs := fun vs e => ht ⟨vs, e⟩
    rw [RV_tup hv] at k ⊢
    exact lvl_RV1 h k
theorem lvl_Cont {I : Option Bool → Nat → Option (Array Value)} (h : Lvl E I) {o : JObj} {us : List Value} (k : Cont E H o us) : Cont (E.wim I) H o us := by
  cases o with
  | box cs rw => exact lvl_RCs h cs us k
  | row e l rw => exact ⟨k.1.monoT (E' := E.wim I) (h true), k.2⟩
end Go.Eng

namespace Go.Eng
variable {R : Type} {P : Program} {S : Sc} {w0 w : World} {E : En} {st : St} {a : Act} {r : R} {H : Nat → Option JObj} {nx : Nat}
mutual
theorem ren_ren {f g : Nat → Option Nat} (h : ∀ id i, f id = some i → g i = some i) : ∀ v : JV, (v.ren f).ren g = v.ren f
  | .int _ _ | .bool _ | .str _ | .nilp | .nils | .nilf | .lst _ _ _ | .arr _ _ _ | .junk => rfl
  | .ptr id off => by simp only [JV.ren]; cases hf : f id with
    | none => rfl
    | some i => simp only [JV.ren, h id i hf]
  | .pdyn id off d => by simp only [JV.ren]; cases hf : f id with
    | none => rfl
    | some i => simp only [JV.ren, h id i hf]
  | .pel id d c => by simp only [JV.ren]; cases hf : f id with
    | none => rfl
    | some i => simp only [JV.ren, h id i hf]
  | .full id => by simp only [JV.ren]; cases hf : f id with
    | none => rfl
    | some i => simp only [JV.ren, h id i hf]
  | .sl id off n => by simp only [JV.ren]; cases hf : f id with
    | none => rfl
    | some i => simp only [JV.ren, h id i hf]
  | .pim esc cs => by simp only [JV.ren, renL_ren h cs]
  | .fn _ cs => by simp only [JV.ren, renL_ren h cs]
  | .agg cs => by simp only [JV.ren, renL_ren h cs]
  | .tup cs => by simp only [JV.ren, renL_ren h cs]
theorem renL_ren {f g : Nat → Option Nat} (h : ∀ id i, f id = some i → g i = some i) : ∀ vs : List JV, renL g (renL f vs) = renL f vs
  | [] => rfl
  | v :: r => by simp only [renL, ren_ren h v, renL_ren h r]
end
theorem JObj.ren_ren {f g : Nat → Option Nat} (h : ∀ id i, f id = some i → g i = some i) (o : JObj) : (o.ren f).ren g = o.ren f := by
  cases o with
  | box cs rw => simp only [JObj.ren, renL_ren h]
  | row e l rw => rfl
def ClV (g : Nat → Option Nat) (v : JV) : Prop := v.ren g = v
def ClO (g : Nat → Option Nat) (o : JObj) : Prop := o.ren g = o
def Sure (f g : Nat → Option Nat) : Prop := ∀ id i, f id = some i → i = id ∧ g id = some id
theorem ClV.mono {f g : Nat → Option Nat} (h : Sure f g) {v : JV} (k : ClV f v) : ClV g v := by
  unfold ClV at *
  conv => lhs; rw [← k]
  rw [ren_ren (fun id i hi => by obtain ⟨rfl, h2⟩ := h id i hi; exact h2), k]
theorem ClO.mono {f g : Nat → Option Nat} (h : Sure f g) {v : JObj} (k : ClO f v) : ClO g v := by
  unfold ClO at *
  conv => lhs; rw [← k]
  rw [JObj.ren_ren (fun id i hi => by obtain ⟨rfl, h2⟩ := h id i hi; exact h2), k]
theorem ClV.of {f g : Nat → Option Nat} (h : Sure f g) (v : JV) : ClV g (v.ren f) := ren_ren (fun id i hi => by obtain ⟨rfl, h2⟩ := h id i hi; exact h2) v
theorem ClO.of {f g : Nat → Option Nat} (h : Sure f g) (v : JObj) : ClO g (v.ren f) := JObj.ren_ren (fun id i hi => by obtain ⟨rfl, h2⟩ := h id i hi; exact h2) v
theorem lv_some {id i : Nat} (h : lvJ H id = some i) : i = id ∧ ∃ o, H id = some o := by
  unfold lvJ at h; split at h
  · rename_i o ho; cases h; exact ⟨rfl, o, ho⟩
  · cases h
theorem lv_at {id : Nat} {o : JObj} (h : H id = some o) : lvJ H id = some id := by unfold lvJ; rw [h]
theorem sure_lv {H H' : Nat → Option JObj} (h : ∀ id o, H id = some o → ∃ o', H' id = some o') : Sure (lvJ H) (lvJ H') := fun id i hi => by
  obtain ⟨rfl, o, ho⟩ := lv_some hi
  obtain ⟨o', ho'⟩ := h _ _ ho
  exact ⟨rfl, lv_at ho'⟩
theorem memB_iff {i : Nat} : ∀ {l : List Nat}, memB i l = true ↔ i ∈ l
  | [] => by simp [memB]
  | j :: r => by
    simp only [memB, List.mem_cons]
    cases h : Nat.beq i j with
    | true => simp [Nat.eq_of_beq_eq_true h]
    | false =>
      have : i ≠ j := fun e => by subst e; simp at h
      simp [memB_iff (l := r), this]
theorem nodupB_iff : ∀ {l : List Nat}, nodupB l = true → l.Nodup
  | [], _ => List.nodup_nil
  | i :: r, h => by
    simp only [nodupB, Bool.and_eq_true, Bool.not_eq_true'] at h
    refine List.nodup_cons.2 ⟨fun hm => ?_, nodupB_iff h.2⟩
    rw [memB_iff.2 hm] at h; cases h.1
theorem addAll_mem {m : Nat} : ∀ {l acc : List Nat}, m ∈ addAll l acc ↔ m ∈ l ∨ m ∈ acc
  | [], acc => by simp [addAll]
  | i :: l, acc => by
    unfold addAll
    cases h : memB i acc with
    | true =>
      have := memB_iff.1 h
      simp only [cond_true, addAll_mem, List.mem_cons]
      constructor
      · rintro (h | h)
        · exact .inl (.inr h)
        · exact .inr h
      · rintro ((rfl | h) | h)
        · exact .inr this
        · exact .inl h
        · exact .inr h
    | false =>
      simp only [cond_false, addAll_mem, List.mem_cons]
      constructor
      · rintro (h | h | h)
        · exact .inl (.inr h)
        · exact .inl (.inl h)
        · exact .inr h
      · rintro ((h | h) | h)
        · exact .inr (.inl h)
        · exact .inl h
        · exact .inr (.inr h)
theorem ancOf_mem {as : List (List Nat)} {m : Nat} : ∀ {l acc : List Nat}, m ∈ ancOf as l acc ↔ (∃ k ∈ l, m = k ∨ m ∈ nthL as k) ∨ m ∈ acc
  | [], acc => by simp [ancOf]
  | k :: l, acc => by
    unfold ancOf
    rw [ancOf_mem, addAll_mem, List.mem_cons]
    constructor
    · rintro (⟨k', h1, h2⟩ | (h | h) | h)
      · exact .inl ⟨k', by simp [h1], h2⟩
      · exact .inl ⟨k, by simp, .inl h⟩
      · exact .inl ⟨k, by simp, .inr h⟩
      · exact .inr h
    · rintro (⟨k', h1, h2⟩ | h)
      · rcases List.mem_cons.1 h1 with rfl | h1
        · exact .inr (.inl h2)
        · exact .inl ⟨k', h1, h2⟩
      · exact .inr (.inr h)
theorem nthL_append {as : List (List Nat)} {l : List Nat} {k : Nat} (h : k < as.length) : nthL (as ++ [l]) k = nthL as k := by
  unfold nthL; rw [List.getElem?_append_left h]
theorem nthL_last {as : List (List Nat)} {l : List Nat} : nthL (as ++ [l]) as.length = l := by
  unfold nthL; rw [List.getElem?_append_right (Nat.le_refl _), Nat.sub_self]; rfl
theorem nthL_ge {as : List (List Nat)} {k : Nat} (h : as.length ≤ k) : nthL as k = [] := by
  unfold nthL; rw [List.getElem?_eq_none h]
structure AncOK (ops : List Oper) (as : List (List Nat)) : Prop where
  len : as.length ≤ ops.length
  lt : ∀ j k, k ∈ nthL as j → k < j
  edge : ∀ j o, ops[j]? = some o → j < as.length → ∀ k ∈ edgesOf o, k ∈ nthL as j
  from_ : ∀ j o, ops[j]? = some o → j < as.length → ∀ m ∈ nthL as j, m ∈ edgesOf o ∨ ∃ k ∈ edgesOf o, m ∈ nthL as k
  trans : ∀ j k m, k ∈ nthL as j → m ∈ nthL as k → m ∈ nthL as j
theorem ancs_ok {ops : List Oper} : ∀ {l : List Oper} {as as' : List (List Nat)}, ancsJ l as = some as' → AncOK ops as → ops = ops.take as.length ++ l → AncOK ops as' ∧ as'.length = ops.length
  | [], as, as', h, hA, hl => by
    simp only [ancsJ, Option.some.injEq] at h; subst h
    refine ⟨hA, Nat.le_antisymm hA.len ?_⟩
    have := congrArg List.length hl
    simp at this; omega
  | o :: l, as, as', h, hA, hl => by
    unfold ancsJ at h
    cases hc : (edgesOf o).all fun k => Nat.blt k as.length with
    | false => rw [hc] at h; cases h
    | true =>
      rw [hc] at h; simp only [cond_true] at h
      have hlt : ∀ k ∈ edgesOf o, k < as.length := fun k hk => by
        have := List.all_eq_true.1 hc k hk
        rwa [Nat.blt_eq] at this
      have hat : ops[as.length]? = some o := by
        have hle := hA.len
        have e1 : (ops.take as.length).length = as.length := by simp; omega
        have e2 : ops[as.length]? = (ops.take as.length ++ o :: l)[as.length]? := by rw [← hl]
        rw [e2, List.getElem?_append_right (by omega), e1, Nat.sub_self]; rfl
      have hlen : as.length < ops.length := by
        rcases Nat.lt_or_ge as.length ops.length with h' | h'
        · exact h'
        · rw [List.getElem?_eq_none h'] at hat; cases hat
      have hnew : ∀ m, m ∈ ancOf as (edgesOf o) [] ↔ ∃ k ∈ edgesOf o, m = k ∨ m ∈ nthL as k := fun m => by rw [ancOf_mem]; simp
      have key : ∀ j, nthL (as ++ [ancOf as (edgesOf o) []]) j = if j < as.length then nthL as j else if j = as.length then ancOf as (edgesOf o) [] else [] := fun j => by
        split
        · rename_i hj; exact nthL_append hj
        · split
          · rename_i hj; subst hj; exact nthL_last
          · exact nthL_ge (by simp; omega)
      refine ancs_ok h ⟨by simp; omega, ?_, ?_, ?_, ?_⟩ ?_
      · intro j k hk
        rw [key] at hk
        split at hk
        · exact hA.lt j k hk
        · split at hk
          · rename_i hj; subst hj
            obtain ⟨k', h1, h2⟩ := (hnew k).1 hk
            have := hlt k' h1
            rcases h2 with rfl | h2
            · exact this
            · have := hA.lt k' k h2; omega
          · cases hk
      · intro j o' hj hjl k hk
        rw [key]
        split
        · rename_i hj'; exact hA.edge j o' hj hj' k hk
        · have : j = as.length := by simp at hjl; omega
          subst this
          rw [if_pos rfl]
          rw [hat] at hj; cases hj
          exact (hnew k).2 ⟨k, hk, .inl rfl⟩
      · intro j o' hj hjl m hm
        rw [key] at hm
        split at hm
        · rename_i hj'
          rcases hA.from_ j o' hj hj' m hm with h1 | ⟨k, h1, h2⟩
          · exact .inl h1
          · have := hA.lt j k (hA.edge j o' hj hj' k h1)
            exact .inr ⟨k, h1, by rw [key, if_pos (by omega)]; exact h2⟩
        · have : j = as.length := by simp at hjl; omega
          subst this
          rw [if_pos rfl] at hm
          rw [hat] at hj; cases hj
          obtain ⟨k, h1, h2⟩ := (hnew m).1 hm
          rcases h2 with rfl | h2
          · exact .inl h1
          · exact .inr ⟨k, h1, by rw [key, if_pos (hlt k h1)]; exact h2⟩
      · intro j k m hk hm
        rw [key] at hk
        split at hk
        · rename_i hj'
          have := hA.lt j k hk
          rw [key, if_pos (by omega)] at hm
          rw [key, if_pos hj']; exact hA.trans j k m hk hm
        · split at hk
          · rename_i hj; subst hj
            obtain ⟨k', h1, h2⟩ := (hnew k).1 hk
            have hk' := hlt k' h1
            have hkl : k < as.length := by
              rcases h2 with rfl | h2
              · exact hk'
              · have := hA.lt k' k h2; omega
            rw [key, if_pos hkl] at hm
            rw [key, if_neg (Nat.lt_irrefl _), if_pos rfl]
            refine (hnew m).2 ⟨k', h1, .inr ?_⟩
            rcases h2 with rfl | h2
            · exact hm
            · exact hA.trans k' k m h2 hm
          · cases hk
      · have e : ops.take (as ++ [ancOf as (edgesOf o) []]).length = ops.take as.length ++ [o] := by
          rw [List.length_append, List.length_singleton, List.take_add_one, hat]; rfl
        rw [e, List.append_assoc]; exact hl
theorem anc_nil (ops : List Oper) : AncOK ops [] := ⟨Nat.zero_le _, fun j k h => by simp [nthL] at h, fun j o _ h => by simp at h, fun j o _ h => by simp at h, fun j k m h => by simp [nthL] at h⟩
theorem AncOK.closed {ops : List Oper} {as : List (List Nat)} (hA : AncOK ops as) (hl : as.length = ops.length) {D : Nat → Prop} (hD : ∀ j o, ops[j]? = some o → D j → ∀ k ∈ edgesOf o, D k) : ∀ j, D j → ∀ m ∈ nthL as j, D m := by
  intro j
  induction j using Nat.strongRecOn with
  | ind j ih =>
    intro hj m hm
    rcases Nat.lt_or_ge j as.length with h1 | h1
    · have ho : ∃ o, ops[j]? = some o := ⟨ops[j], List.getElem?_eq_getElem (by omega)⟩
      obtain ⟨o, ho⟩ := ho
      rcases hA.from_ j o ho h1 m hm with h2 | ⟨k, h2, h3⟩
      · exact hD j o ho hj m h2
      · exact ih k (hA.lt j k (hA.edge j o ho h1 k h2)) (hD j o ho hj k h2) m h3
    · rw [nthL_ge h1] at hm; cases hm
end Go.Eng

namespace Go.Eng
variable {R : Type} {P : Program} {S : Sc} {w0 w : World} {E : En} {st : St} {a : Act} {r : R} {H : Nat → Option JObj} {nx : Nat}
inductive Guard (all : List Oper) (g : Option (Nat × Bool)) (st : St) : Bool → Prop
  | none (h : g = none) : Guard all g st true
  | at {j : Nat} {want : Bool} {o : Oper} {d : Nat} {b : Bool} (h : g = some (j, want)) (ho : all[j]? = some o) (hd : o.dst = some d) (hb : st.env d = .bool b) : Guard all g st (b == want)
  | un {j : Nat} {want : Bool} {o : Oper} {d : Nat} (h : g = some (j, want)) (ho : all[j]? = some o) (hd : o.dst = some d) (hb : st.env d = .tup []) : Guard all g st false
theorem set_same {d : Nat} {v : JV} (h : st.env d = v) : st.set (some d) v = st := by
  have : upd st.env d v = st.env := by
    funext i
    by_cases hi : i = d
    · subst hi; rw [upd_same, h]
    · exact upd_ne _ _ hi
  show { st with env := upd st.env d v } = st
  rw [this]
theorem guard_inv {all : List Oper} {g : Option (Nat × Bool)} {Y N : St → Option R} (h : guardJ all g st Y N = some r) : (Guard all g st true ∧ Y st = some r) ∨ (Guard all g st false ∧ N st = some r) := by
  unfold guardJ at h
  split at h
  · exact .inl ⟨.none rfl, h⟩
  · rename_i j want
    split at h
    · cases h
    · rename_i d hd
      obtain ⟨o, ho, hd⟩ : ∃ o, all[j]? = some o ∧ o.dst = some d := by
        split at hd
        · rename_i o ho; exact ⟨o, ho, hd⟩
        · cases hd
      split at h
      · rename_i hu; exact .inr ⟨.un rfl ho hd hu, h⟩
      obtain ⟨b, hb, h⟩ := asBoolK_inv h
      have hg := Guard.at (all := all) (g := some (j, want)) (st := st) rfl ho hd hb
      rw [set_same hb] at h
      cases hbw : (b == want) with
      | true => rw [hbw] at h hg; exact .inl ⟨hg, h⟩
      | false => rw [hbw] at h hg; exact .inr ⟨hg, h⟩
inductive VR (P : Program) (C : CallJ PK) (all : List Oper) (as : List (List Nat)) (b : Nat) (sb : St) : Nat → List (Nat × Nat × Nat) → St → Prop
  | start : VR P C all as b sb b [] sb
  | take {j : Nat} {rg : List (Nat × Nat × Nat)} {st : St} {o : Oper} {v : JV} {st' : St} (h : VR P C all as b sb j rg st) (ho : all[j]? = some o) (hg : Guard all o.guard (viewSt all b sb.nx rg (nthL as j) st) true)
      (hv : opJ P C o.op o.type (viewSt all b sb.nx rg (nthL as j) st) pk = some (v, st')) (hn : st.nx ≤ st'.nx) : VR P C all as b sb (j + 1) (rg ++ [(j, st.nx, st'.nx)]) (nextSt st (viewSt all b sb.nx rg (nthL as j) st) st' v o.dst)
  | skip {j : Nat} {rg : List (Nat × Nat × Nat)} {st : St} {o : Oper} (h : VR P C all as b sb j rg st) (ho : all[j]? = some o) (hg : Guard all o.guard (viewSt all b sb.nx rg (nthL as j) st) false) : VR P C all as b sb (j + 1) rg (st.set o.dst (.tup []))
section
variable {C : CallJ PK} {all : List Oper} {as : List (List Nat)} {b : Nat} {sb : St} {j : Nat} {rg : List (Nat × Nat × Nat)}
theorem next_H_old {vw st' : St} {v : JV} {dst : Option Nat} {id : Nat} (h : id < st.nx) : (nextSt st vw st' v dst).H id = st.H id := by
  have : (nextSt st vw st' v dst).H id = cond (Nat.blt id st.nx) (st.H id) (newO vw st' id) := by cases dst <;> rfl
  rw [this, show Nat.blt id st.nx = true from by rw [Nat.blt_eq]; exact h]; rfl
theorem next_H_new {vw st' : St} {v : JV} {dst : Option Nat} {id : Nat} (h : st.nx ≤ id) : (nextSt st vw st' v dst).H id = newO vw st' id := by
  have : (nextSt st vw st' v dst).H id = cond (Nat.blt id st.nx) (st.H id) (newO vw st' id) := by cases dst <;> rfl
  have hb : Nat.blt id st.nx = false := by
    cases hb : Nat.blt id st.nx with
    | false => rfl
    | true => rw [Nat.blt_eq] at hb; omega
  rw [this, hb]; rfl
theorem next_nx {vw st' : St} {v : JV} {dst : Option Nat} : (nextSt st vw st' v dst).nx = st'.nx := by cases dst <;> rfl
theorem next_env_ne {vw st' : St} {v : JV} {dst : Option Nat} {i : Nat} (h : dst ≠ some i) : (nextSt st vw st' v dst).env i = st.env i := by
  cases dst with
  | none => rfl
  | some d => exact upd_ne _ _ (fun e => h (by rw [e]))
theorem next_env_at {vw st' : St} {v : JV} {d : Nat} : (nextSt st vw st' v (some d)).env d = v.ren (newJ vw st') := upd_same _ _ _
theorem set_env_ne {v : JV} {dst : Option Nat} {i : Nat} (h : dst ≠ some i) : (st.set dst v).env i = st.env i := by
  cases dst with
  | none => rfl
  | some d => exact upd_ne _ _ (fun e => h (by rw [e]))
theorem set_H {v : JV} {dst : Option Nat} : (st.set dst v).H = st.H := by cases dst <;> rfl
theorem set_nx {v : JV} {dst : Option Nat} : (st.set dst v).nx = st.nx := by cases dst <;> rfl
def DstOne (all : List Oper) : Prop := ∀ (k k' : Nat) (o o' : Oper) (d : Nat), all[k]? = some o → all[k']? = some o' → o.dst = some d → o'.dst = some d → k = k'
theorem dst_mem : ∀ {all : List Oper} {k : Nat} {o : Oper} {d : Nat}, all[k]? = some o → o.dst = some d → d ∈ dstsOf all
  | [], k, o, d, h, _ => by simp at h
  | o' :: all, 0, o, d, h, hd => by
    simp only [List.getElem?_cons_zero, Option.some.injEq] at h; subst h
    unfold dstsOf; rw [hd]; simp
  | o' :: all, k + 1, o, d, h, hd => by
    have := dst_mem (all := all) (by simpa using h) hd
    unfold dstsOf; cases o'.dst <;> simp [this]
theorem dst_one : ∀ {all : List Oper}, (dstsOf all).Nodup → DstOne all
  | [], _, k, k', o, o', d, h, _, _, _ => by simp at h
  | x :: all, hn, k, k', o, o', d, h, h', hd, hd' => by
    have hn' : (dstsOf all).Nodup := by
      unfold dstsOf at hn; split at hn
      · exact (List.nodup_cons.1 hn).2
      · exact hn
    have hx : ∀ (k : Nat) (o : Oper), all[k]? = some o → o.dst = some d → x.dst = some d → False := fun k o ho hd hxd => by
      unfold dstsOf at hn; rw [hxd] at hn
      exact (List.nodup_cons.1 hn).1 (dst_mem ho hd)
    cases k with
    | zero =>
      cases k' with
      | zero => rfl
      | succ k' =>
        simp only [List.getElem?_cons_zero, Option.some.injEq] at h; subst h
        exact (hx k' o' (by simpa using h') hd' hd).elim
    | succ k =>
      cases k' with
      | zero =>
        simp only [List.getElem?_cons_zero, Option.some.injEq] at h'; subst h'
        exact (hx k o (by simpa using h) hd hd').elim
      | succ k' =>
        rw [dst_one hn' k k' o o' d (by simpa using h) (by simpa using h') hd hd']
theorem VR.ge (h : VR P C all as b sb j rg st) : b ≤ j ∧ sb.nx ≤ st.nx ∧ (∀ x ∈ rg, b ≤ x.1 ∧ x.1 < j ∧ sb.nx ≤ x.2.1 ∧ x.2.1 ≤ x.2.2 ∧ x.2.2 ≤ st.nx) ∧ ∀ id, id < sb.nx → st.H id = sb.H id := by
  induction h with
  | start => exact ⟨Nat.le_refl _, Nat.le_refl _, fun x hx => by simp at hx, fun _ _ => rfl⟩
  | take h ho hg hv hn ih =>
    obtain ⟨h1, h2, h3, h4⟩ := ih
    rw [next_nx]
    refine ⟨by omega, by omega, fun x hx => ?_, fun id hi => ?_⟩
    · rcases List.mem_append.1 hx with hx | hx
      · obtain ⟨a1, a2, a3, a4, a5⟩ := h3 x hx
        exact ⟨a1, by omega, a3, a4, by omega⟩
      · simp only [List.mem_singleton] at hx; subst hx
        exact ⟨h1, Nat.lt_succ_self _, h2, hn, Nat.le_refl _⟩
    · rw [next_H_old (by omega)]; exact h4 id hi
  | skip h ho hg ih =>
    obtain ⟨h1, h2, h3, h4⟩ := ih
    rw [set_nx, set_H]
    exact ⟨by omega, h2, fun x hx => by obtain ⟨a1, a2, a3⟩ := h3 x hx; exact ⟨a1, by omega, a3⟩, h4⟩
inductive AtK (P : Program) (C : CallJ PK) (all : List Oper) (as : List (List Nat)) (b : Nat) (sb : St) (j : Nat) (rgj : List (Nat × Nat × Nat)) (sj : St) (k : Nat) (o : Oper) (rg : List (Nat × Nat × Nat)) (st : St) : Prop
  | take {v : JV} {st' : St} (hg : Guard all o.guard (viewSt all b sb.nx rg (nthL as k) st) true) (hv : opJ P C o.op o.type (viewSt all b sb.nx rg (nthL as k) st) pk = some (v, st')) (hn : st.nx ≤ st'.nx) (hle : st'.nx ≤ sj.nx)
      (hmem : ∀ x, x ∈ rgj ↔ x ∈ rg ∨ x = (k, st.nx, st'.nx) ∨ (x ∈ rgj ∧ k < x.1 ∧ st'.nx ≤ x.2.1)) (hH : ∀ id, st.nx ≤ id → id < st'.nx → sj.H id = newO (viewSt all b sb.nx rg (nthL as k) st) st' id) (hd : ∀ d, o.dst = some d → sj.env d = v.ren (newJ (viewSt all b sb.nx rg (nthL as k) st) st'))
  | skip (hg : Guard all o.guard (viewSt all b sb.nx rg (nthL as k) st) false) (hmem : ∀ x, x ∈ rgj ↔ x ∈ rg ∨ (x ∈ rgj ∧ k < x.1 ∧ st.nx ≤ x.2.1)) (hd : ∀ d, o.dst = some d → sj.env d = .tup [])
theorem VR.at (hone : DstOne all) (h : VR P C all as b sb j rg st) : ∀ k, b ≤ k → k < j → ∃ o rgk sk, all[k]? = some o ∧ VR P C all as b sb k rgk sk ∧ sk.nx ≤ st.nx ∧ (∀ id, id < sk.nx → st.H id = sk.H id) ∧
    (∀ i, (∀ m o, k ≤ m → m < j → all[m]? = some o → o.dst ≠ some i) → st.env i = sk.env i) ∧ AtK P C all as b sb j rg st k o rgk sk := by
  induction h with
  | start => intro k h1 h2; omega
  | @take j rg st o v st' h ho hg hv hn ih =>
    have hge := h.ge
    intro k h1 h2
    rcases Nat.lt_or_ge k j with hk | hk
    · obtain ⟨ok, rgk, sk, q1, q2, q3, q4, q5, q6⟩ := ih k h1 hk
      refine ⟨ok, rgk, sk, q1, q2, by rw [next_nx]; omega, fun id hi => by rw [next_H_old (by omega)]; exact q4 id hi, fun i hi => ?_, ?_⟩
      · rw [next_env_ne (hi j o (by omega) (Nat.lt_succ_self _) ho)]
        exact q5 i fun m o' hm hm' => hi m o' hm (by omega)
      · have hdk : ∀ d, ok.dst = some d → o.dst ≠ some d := fun d hd hd' => by have := hone k j ok o d q1 ho hd hd'; omega
        cases q6 with
        | take hg' hv' hn' hle hmem hH hd =>
          refine .take hg' hv' hn' (by rw [next_nx]; omega) (fun x => ?_) (fun id hi hi' => by rw [next_H_old (by omega)]; exact hH id hi hi') fun d hd' => by rw [next_env_ne (hdk d hd')]; exact hd d hd'
          constructor
          · intro hx
            rcases List.mem_append.1 hx with hx' | hx'
            · rcases (hmem x).1 hx' with g | g | g
              · exact .inl g
              · exact .inr (.inl g)
              · exact .inr (.inr ⟨hx, g.2⟩)
            · simp only [List.mem_singleton] at hx'; subst hx'
              exact .inr (.inr ⟨hx, hk, hle⟩)
          · rintro (g | g | g)
            · exact List.mem_append_left _ ((hmem x).2 (.inl g))
            · exact List.mem_append_left _ ((hmem x).2 (.inr (.inl g)))
            · exact g.1
        | skip hg' hmem hd =>
          refine .skip hg' (fun x => ?_) fun d hd' => by rw [next_env_ne (hdk d hd')]; exact hd d hd'
          constructor
          · intro hx
            rcases List.mem_append.1 hx with hx' | hx'
            · rcases (hmem x).1 hx' with g | g
              · exact .inl g
              · exact .inr ⟨hx, g.2⟩
            · simp only [List.mem_singleton] at hx'; subst hx'
              exact .inr ⟨hx, hk, q3⟩
          · rintro (g | g)
            · exact List.mem_append_left _ ((hmem x).2 (.inl g))
            · exact g.1
    · have : k = j := by omega
      subst this
      refine ⟨o, rg, st, ho, h, by rw [next_nx]; exact hn, fun id hi => next_H_old hi, fun i hi => next_env_ne (hi k o (Nat.le_refl _) (Nat.lt_succ_self _) ho), .take hg hv hn (by rw [next_nx]; exact Nat.le_refl _) (fun x => ?_) (fun id hi hi' => next_H_new hi) fun d hd => by rw [hd]; exact next_env_at⟩
      constructor
      · intro hx
        rcases List.mem_append.1 hx with hx' | hx'
        · exact .inl hx'
        · exact .inr (.inl (by simpa using hx'))
      · rintro (g | g | g)
        · exact List.mem_append_left _ g
        · subst g; simp
        · exact g.1
  | @skip j rg st o h ho hg ih =>
    have hge := h.ge
    intro k h1 h2
    rcases Nat.lt_or_ge k j with hk | hk
    · obtain ⟨ok, rgk, sk, q1, q2, q3, q4, q5, q6⟩ := ih k h1 hk
      have hdk : ∀ d, ok.dst = some d → o.dst ≠ some d := fun d hd hd' => by have := hone k j ok o d q1 ho hd hd'; omega
      refine ⟨ok, rgk, sk, q1, q2, by rw [set_nx]; omega, fun id hi => by rw [set_H]; exact q4 id hi, fun i hi => ?_, ?_⟩
      · rw [set_env_ne (hi j o (by omega) (Nat.lt_succ_self _) ho)]
        exact q5 i fun m o' hm hm' => hi m o' hm (by omega)
      · cases q6 with
        | take hg' hv' hn' hle hmem hH hd => exact .take hg' hv' hn' (by rw [set_nx]; exact hle) hmem (by rw [set_H]; exact hH) fun d hd' => by rw [set_env_ne (hdk d hd')]; exact hd d hd'
        | skip hg' hmem hd => exact .skip hg' hmem fun d hd' => by rw [set_env_ne (hdk d hd')]; exact hd d hd'
    · have : k = j := by omega
      subst this
      refine ⟨o, rg, st, ho, h, by rw [set_nx]; exact Nat.le_refl _, fun id hi => by rw [set_H], fun i hi => set_env_ne (hi k o (Nat.le_refl _) (Nat.lt_succ_self _) ho), .skip hg (fun x => ⟨fun hx => .inl hx, fun hx => by rcases hx with hx | hx; exact hx; exact hx.1⟩) fun d hd => by rw [hd]; exact upd_same _ _ _⟩
end
end Go.Eng

namespace Go.Eng
variable {R : Type} {P : Program} {S : Sc} {w0 w : World} {E : En} {st : St} {a : Act} {r : R} {H : Nat → Option JObj} {nx : Nat}
variable {C : CallJ PK} {all : List Oper} {as : List (List Nat)} {b : Nat} {sb : St} {j : Nat} {rg : List (Nat × Nat × Nat)}
def visB (nb : Nat) (rg : List (Nat × Nat × Nat)) (D : Nat → Bool) (id : Nat) : Bool := Nat.blt id nb || rg.any fun x => Nat.ble x.2.1 id && Nat.blt id x.2.2 && D x.1
theorem vis_iff {nb : Nat} {D : Nat → Bool} {id : Nat} : visB nb rg D id = true ↔ id < nb ∨ ∃ x ∈ rg, x.2.1 ≤ id ∧ id < x.2.2 ∧ D x.1 = true := by
  unfold visB
  rw [Bool.or_eq_true, Nat.blt_eq, List.any_eq_true]
  constructor
  · rintro (h | ⟨x, hx, h⟩)
    · exact .inl h
    · simp only [Bool.and_eq_true, Nat.blt_eq] at h
      exact .inr ⟨x, hx, Nat.le_of_ble_eq_true h.1.1, h.1.2, h.2⟩
  · rintro (h | ⟨x, hx, h1, h2, h3⟩)
    · exact .inl h
    · refine .inr ⟨x, hx, ?_⟩
      simp only [Bool.and_eq_true, Nat.blt_eq]
      exact ⟨⟨Nat.ble_eq_true_of_le h1, h2⟩, h3⟩
theorem seen_vis {nb : Nat} {an : List Nat} {id : Nat} : seenB nb rg an id = visB nb rg (fun k => memB k an) id := by
  unfold seenB visB
  congr 1
  induction rg with
  | nil => rfl
  | cons x r ih => obtain ⟨k, lo, hi⟩ := x; simp only [rgB, List.any_cons, ih]
def HD (nb : Nat) (rg : List (Nat × Nat × Nat)) (D : Nat → Bool) (H : Nat → Option JObj) (id : Nat) : Option JObj := cond (visB nb rg D id) (H id) none
theorem HD_some {nb : Nat} {D : Nat → Bool} {id : Nat} {o : JObj} : HD nb rg D H id = some o ↔ (id < nb ∨ ∃ x ∈ rg, x.2.1 ≤ id ∧ id < x.2.2 ∧ D x.1 = true) ∧ H id = some o := by
  rw [← vis_iff]
  unfold HD
  cases visB nb rg D id <;> simp
def Hid (all : List Oper) (b e : Nat) (D : Nat → Bool) (i : Nat) : Prop := ∃ (k : Nat) (o : Oper), b ≤ k ∧ k < e ∧ D k = false ∧ all[k]? = some o ∧ o.dst = some i
theorem hid_at {an : List Nat} {i : Nat} : ∀ {l : List Oper} {n : Nat}, hidB l n b an i = true ↔ ∃ (k : Nat) (o : Oper), l[k]? = some o ∧ o.dst = some i ∧ b ≤ n + k ∧ n + k ∉ an
  | [], n => by simp [hidB]
  | x :: l, n => by
    unfold hidB
    rw [Bool.or_eq_true, hid_at]
    constructor
    · rintro (h | ⟨k, o, h1, h2, h3, h4⟩)
      · cases hd : x.dst with
        | none => rw [hd] at h; cases h
        | some d =>
          rw [hd] at h
          simp only [Bool.and_eq_true, Bool.not_eq_true'] at h
          refine ⟨0, x, rfl, by rw [hd, Nat.eq_of_beq_eq_true h.1], Nat.le_of_ble_eq_true h.2.1, fun hm => ?_⟩
          rw [Nat.add_zero] at hm
          rw [memB_iff.2 hm] at h; cases h.2.2
      · exact ⟨k + 1, o, by simpa using h1, h2, by omega, by rw [show n + (k + 1) = n + 1 + k from by omega]; exact h4⟩
    · rintro ⟨k, o, h1, h2, h3, h4⟩
      cases k with
      | zero =>
        simp only [List.getElem?_cons_zero, Option.some.injEq] at h1; subst h1
        left; rw [h2]
        simp only [Bool.and_eq_true, Bool.not_eq_true']
        refine ⟨Nat.beq_refl _, Nat.ble_eq_true_of_le h3, ?_⟩
        cases hm : memB n an with
        | false => rfl
        | true => exact (h4 (memB_iff.1 hm)).elim
      | succ k => exact .inr ⟨k, o, by simpa using h1, h2, by omega, by rw [show n + 1 + k = n + (k + 1) from by omega]; exact h4⟩
structure Live (sb : St) : Prop where
  env : ∀ i, ClV (lvJ sb.H) (sb.env i)
  obj : ∀ id o, sb.H id = some o → ClO (lvJ sb.H) o
def DCl (as : List (List Nat)) (b : Nat) (D : Nat → Bool) : Prop := ∀ k, D k = true → ∀ m ∈ nthL as k, b ≤ m → D m = true
theorem VR.keep {vw st' : St} {v : JV} {dst : Option Nat} {x : Nat × Nat × Nat} (h : VR P C all as b sb j rg st) {D : Nat → Bool} {id : Nat} {o : JObj} (ho : HD sb.nx rg D st.H id = some o) : HD sb.nx (rg ++ [x]) D (nextSt st vw st' v dst).H id = some o := by
  obtain ⟨h1, h2, h3, h4⟩ := h.ge
  obtain ⟨g1, g2⟩ := HD_some.1 ho
  have hlt : id < st.nx := by
    rcases g1 with g1 | ⟨y, hy, g3, g4, g5⟩
    · omega
    · have := h3 y hy; omega
  refine HD_some.2 ⟨?_, by rw [next_H_old hlt]; exact g2⟩
  rcases g1 with g1 | ⟨y, hy, g3⟩
  · exact .inl g1
  · exact .inr ⟨y, List.mem_append_left _ hy, g3⟩
theorem view_H {an : List Nat} {id : Nat} {o : JObj} (h : (viewSt all b sb.nx rg an st).H id = some o) : ∃ o', HD sb.nx rg (fun k => memB k an) st.H id = some o' ∧ o = o'.ro.ren (lvJ (onlyJ (seenB sb.nx rg an) st.H)) := by
  have h : liveH (onlyJ (seenB sb.nx rg an) st.H) id = some o := h
  unfold liveH at h
  split at h
  · rename_i o1 ho
    unfold onlyJ at ho
    rw [seen_vis] at ho
    cases hv : visB sb.nx rg (fun k => memB k an) id with
    | false => rw [hv] at ho; cases ho
    | true =>
      rw [hv] at ho
      simp only [cond_true] at ho
      split at ho
      · rename_i o2 h2
        cases ho; cases h
        exact ⟨o2, by unfold HD; rw [hv]; exact h2, rfl⟩
      · cases ho
  · cases h
theorem HD_mono {nb : Nat} {D D' : Nat → Bool} (hb : ∀ x ∈ rg, D x.1 = true → D' x.1 = true) {id : Nat} {o : JObj} (h : HD nb rg D H id = some o) : HD nb rg D' H id = some o := by
  obtain ⟨h1, h2⟩ := HD_some.1 h
  refine HD_some.2 ⟨?_, h2⟩
  rcases h1 with h1 | ⟨x, hx, h3, h4, h5⟩
  · exact .inl h1
  · exact .inr ⟨x, hx, h3, h4, hb x hx h5⟩
theorem newJ_sure {vw st' : St} {H' : Nat → Option JObj} (h1 : ∀ id o, vw.H id = some o → ∃ o', H' id = some o') (h2 : ∀ id o, vw.nx ≤ id → id < st'.nx → newO vw st' id = some o → ∃ o', H' id = some o') : Sure (newJ vw st') (lvJ H') := fun id i hi => by
  unfold newJ at hi
  split at hi
  · rename_i o ho
    cases hb : Nat.blt id vw.nx with
    | true =>
      rw [hb] at hi
      obtain ⟨rfl, o', ho'⟩ := lv_some hi
      obtain ⟨o2, ho2⟩ := h1 _ _ ho'
      exact ⟨rfl, lv_at ho2⟩
    | false =>
      rw [hb] at hi; simp only [cond_false] at hi
      cases hr : (o.rw && Nat.blt id st'.nx) with
      | false => rw [hr] at hi; cases hi
      | true =>
        rw [hr] at hi; cases hi
        have hr' := hr
        rw [Bool.and_eq_true, Nat.blt_eq] at hr
        have hge : vw.nx ≤ id := by
          rcases Nat.lt_or_ge id vw.nx with h' | h'
          · rw [← Nat.blt_eq, hb] at h'; cases h'
          · exact h'
        obtain ⟨o2, ho2⟩ := h2 id (o.ren (newJ vw st')) hge hr.2 (by unfold newO; rw [ho, ]; simp only; rw [hr']; rfl)
        exact ⟨rfl, lv_at ho2⟩
  · cases hi
theorem VR.closed (hfresh : ∀ id, sb.nx ≤ id → sb.H id = none) (live : Live sb) (h : VR P C all as b sb j rg st) : ∀ D : Nat → Bool, DCl as b D →
    (∀ i, ¬ Hid all b j D i → ClV (lvJ (HD sb.nx rg D st.H)) (st.env i)) ∧ ∀ id o, HD sb.nx rg D st.H id = some o → ClO (lvJ (HD sb.nx rg D st.H)) o := by
  induction h with
  | start =>
    intro D hD
    have e : HD sb.nx [] D sb.H = sb.H := by
      funext id
      unfold HD visB
      rcases Nat.lt_or_ge id sb.nx with h1 | h1
      · rw [show Nat.blt id sb.nx = true from by rw [Nat.blt_eq]; exact h1]; rfl
      · rw [show Nat.blt id sb.nx = false from by
          cases hb : Nat.blt id sb.nx with
          | false => rfl
          | true => rw [Nat.blt_eq] at hb; omega]
        exact (hfresh id h1).symm
    rw [e]
    exact ⟨fun i _ => live.env i, live.obj⟩
  | @take j rg st o v st' h ho hg hv hn ih =>
    intro D hD
    obtain ⟨g1, g2, g3, g4⟩ := h.ge
    obtain ⟨ih1, ih2⟩ := ih D hD
    have hkeep : ∀ id x, HD sb.nx rg D st.H id = some x → HD sb.nx (rg ++ [(j, st.nx, st'.nx)]) D (nextSt st (viewSt all b sb.nx rg (nthL as j) st) st' v o.dst).H id = some x := fun id x hx => h.keep hx
    have hs : Sure (lvJ (HD sb.nx rg D st.H)) (lvJ (HD sb.nx (rg ++ [(j, st.nx, st'.nx)]) D (nextSt st (viewSt all b sb.nx rg (nthL as j) st) st' v o.dst).H)) := sure_lv fun id x hx => ⟨x, hkeep id x hx⟩
    have hnew : D j = true → Sure (newJ (viewSt all b sb.nx rg (nthL as j) st) st') (lvJ (HD sb.nx (rg ++ [(j, st.nx, st'.nx)]) D (nextSt st (viewSt all b sb.nx rg (nthL as j) st) st' v o.dst).H)) := fun hj => by
      refine newJ_sure (fun id x hx => ?_) (fun id x h1 h2 hx => ?_)
      · obtain ⟨o', k1, _⟩ := view_H hx
        exact ⟨o', hkeep id o' (HD_mono (fun y hy hm => hD j hj y.1 (memB_iff.1 hm) (g3 y hy).1) k1)⟩
      · exact ⟨x, HD_some.2 ⟨.inr ⟨(j, st.nx, st'.nx), List.mem_append_right _ (by simp), h1, h2, hj⟩, by rw [next_H_new (st := st) h1]; exact hx⟩⟩
    refine ⟨fun i hi => ?_, fun id x hx => ?_⟩
    · by_cases hd : o.dst = some i
      · have hj : D j = true := by
          cases hj : D j with
          | true => rfl
          | false => exact (hi ⟨j, o, g1, Nat.lt_succ_self _, hj, ho, hd⟩).elim
        have : (nextSt st (viewSt all b sb.nx rg (nthL as j) st) st' v o.dst).env i = v.ren (newJ (viewSt all b sb.nx rg (nthL as j) st) st') := by rw [hd]; exact next_env_at
        rw [this]; exact ClV.of (hnew hj) v
      · rw [next_env_ne hd]
        exact (ih1 i fun ⟨k, o', a1, a2, a3⟩ => hi ⟨k, o', a1, by omega, a3⟩).mono hs
    · obtain ⟨k1, k2⟩ := HD_some.1 hx
      rcases Nat.lt_or_ge id st.nx with hlt | hge
      · rw [next_H_old hlt] at k2
        refine (ih2 id x (HD_some.2 ⟨?_, k2⟩)).mono hs
        rcases k1 with k1 | ⟨y, hy, k3, k4, k5⟩
        · exact .inl k1
        · rcases List.mem_append.1 hy with hy | hy
          · exact .inr ⟨y, hy, k3, k4, k5⟩
          · simp only [List.mem_singleton] at hy; subst hy; simp only at k3; omega
      · rw [next_H_new hge] at k2
        have hj : D j = true := by
          rcases k1 with k1 | ⟨y, hy, k3, k4, k5⟩
          · omega
          · rcases List.mem_append.1 hy with hy | hy
            · have := g3 y hy; omega
            · simp only [List.mem_singleton] at hy; subst hy; exact k5
        unfold newO at k2
        split at k2
        · rename_i o2 ho2
          cases hr : (o2.rw && Nat.blt id st'.nx) with
          | false => rw [hr] at k2; cases k2
          | true => rw [hr] at k2; cases k2; exact ClO.of (hnew hj) o2
        · cases k2
  | @skip j rg st o h ho hg ih =>
    intro D hD
    obtain ⟨g1, g2, g3, g4⟩ := h.ge
    obtain ⟨ih1, ih2⟩ := ih D hD
    rw [set_H]
    refine ⟨fun i hi => ?_, ih2⟩
    by_cases hd : o.dst = some i
    · have : (st.set o.dst (.tup [])).env i = .tup [] := by rw [hd]; exact upd_same _ _ _
      rw [this]; rfl
    · rw [set_env_ne hd]
      exact ih1 i fun ⟨k, o', a1, a2, a3⟩ => hi ⟨k, o', a1, by omega, a3⟩
end Go.Eng

namespace Go.Eng
variable {R : Type} {P : Program} {S : Sc} {w0 w : World} {E : En} {st : St} {a : Act} {r : R} {H : Nat → Option JObj} {nx : Nat}
variable {C : CallJ PK} {all : List Oper} {as : List (List Nat)} {b : Nat} {sb : St} {j : Nat} {rg : List (Nat × Nat × Nat)}
theorem all_ex (w : World) (im : Option Bool → Nat → Option (Array Value)) : ∃ I : Option Bool → Nat → Option (Array Value), (∀ e b, I (some e) b = im (some e) b) ∧ (∀ b c, I none b = some c ↔ ∃ t fz, w.heap[b]? = some (.cells c t fz)) := by
  refine ⟨fun e b => match e with
    | some e => im (some e) b
    | none => match w.heap[b]? with
      | some (.cells c _ _) => some c
      | _ => none, fun e b => rfl, fun b c => ?_⟩
  simp only
  split
  · rename_i c' t fz h
    rw [h]
    constructor
    · intro e; cases e; exact ⟨_, _, rfl⟩
    · rintro ⟨_, _, e⟩; cases e; rfl
  · rename_i hne
    constructor
    · intro e; cases e
    · rintro ⟨t, fz, e⟩; exact (hne _ _ _ e).elim
def Rel (S : Sc) (w0 : World) (all : List Oper) (b e nb : Nat) (rg : List (Nat × Nat × Nat)) (se : St) (n : Nat) (D : Nat → Bool) (a : Act) (w : World) : Prop :=
  a.defers = [] ∧ a.tmps.size = n ∧ ∃ E, RepH S w0 E (HD nb rg D se.H) se.nx w ∧ ∀ i, ¬ Hid all b e D i → RV E (HD nb rg D se.H) (se.env i) (a.tmps.getD i undef)
def with_ (D : Nat → Bool) (k : Nat) (m : Nat) : Bool := D m || Nat.beq m k
theorem ro_rw (o : JObj) : o.ro.rw = false := by cases o <;> rfl
theorem shp_ro (o : JObj) : shp (some o.ro) = shp (some o) := by cases o <;> rfl
theorem cont_ro {o : JObj} {us : List Value} (h : Cont E H o us) : Cont E H o.ro us := by cases o <;> exact h
section
variable {e k n : Nat} {rge rgk : List (Nat × Nat × Nat)} {se sk : St} {D : Nat → Bool}
theorem view_rel (hk : VR P C all as b sb k rgk sk) (hke : k < e) (hnx : sk.nx ≤ se.nx) (hH : ∀ id, id < sk.nx → se.H id = sk.H id)
    (henv : ∀ i, (∀ (m : Nat) (o : Oper), k ≤ m → m < e → all[m]? = some o → o.dst ≠ some i) → se.env i = sk.env i) (hrg : ∀ x ∈ rgk, x ∈ rge) (hA : AncOK all as) (hanc : ∀ m ∈ nthL as k, b ≤ m → D m = true)
    (hr : RepH S w0 E (HD sb.nx rge D se.H) se.nx w) (hv : ∀ i, ¬ Hid all b e D i → RV E (HD sb.nx rge D se.H) (se.env i) (a.tmps.getD i undef)) (hdf : a.defers = []) :
    ∃ (Sv : Sc) (Ev : En), (∀ x, ¬ Sv.own x) ∧ Sv.m = sk.nx ∧ Sv.φ0 = E.φ ∧ (∀ e b, Sv.im0 e b = E.im (some e) b) ∧ (∀ i, Sv.sh0 i = shp ((viewSt all b sb.nx rgk (nthL as k) sk).H i)) ∧ Rep Sv w Ev (viewSt all b sb.nx rgk (nthL as k) sk) a w ∧
      ∀ id o, (viewSt all b sb.nx rgk (nthL as k) sk).H id = some o → id < sk.nx ∧ ∃ o1, HD sb.nx rge D se.H id = some o1 ∧ shp (some o) = shp (some o1) := by
  obtain ⟨g1, g2, g3, g4⟩ := hk.ge
  have hlook : ∀ id o, HD sb.nx rgk (fun m => memB m (nthL as k)) sk.H id = some o → id < sk.nx ∧ HD sb.nx rge D se.H id = some o := fun id o h => by
    obtain ⟨h1, h2⟩ := HD_some.1 h
    have hlt : id < sk.nx := by
      rcases h1 with h1 | ⟨y, hy, h3, h4, h5⟩
      · omega
      · have := g3 y hy; omega
    refine ⟨hlt, HD_some.2 ⟨?_, by rw [hH id hlt]; exact h2⟩⟩
    rcases h1 with h1 | ⟨y, hy, h3, h4, h5⟩
    · exact .inl h1
    · exact .inr ⟨y, hrg y hy, h3, h4, hanc _ (memB_iff.1 h5) (g3 y hy).1⟩
  have hview : ∀ id o, (viewSt all b sb.nx rgk (nthL as k) sk).H id = some o → id < sk.nx ∧ ∃ o1, HD sb.nx rge D se.H id = some o1 ∧ o = o1.ro.ren (lvJ (onlyJ (seenB sb.nx rgk (nthL as k)) sk.H)) := fun id o h => by
    obtain ⟨o', h1, h2⟩ := view_H h
    obtain ⟨h3, h4⟩ := hlook id o' h1
    exact ⟨h3, o', h4, h2⟩
  obtain ⟨I, hI1, hI2⟩ := all_ex w E.im
  have hmore : ∀ esc b c, E.im esc b = some c → I esc b = some c := fun esc b c hc => by
    cases esc with
    | some e => rw [hI1]; exact hc
    | none => exact (hI2 b c).2 (hr.imOK _ _ _ hc)
  have hIok : ∀ esc b c, I esc b = some c → ∃ t fz, w.heap[b]? = some (.cells c t fz) := fun esc b c hc => by
    cases esc with
    | some e => rw [hI1] at hc; exact hr.imOK _ _ _ hc
    | none => exact (hI2 b c).1 hc
  let Ev : En := ⟨sk.nx, E.φ, I⟩
  have G : Goes (lvJ (onlyJ (seenB sb.nx rgk (nthL as k)) sk.H)) E (HD sb.nx rge D se.H) Ev (viewSt all b sb.nx rgk (nthL as k) sk).H := by
    refine ⟨fun id i hn hi => ?_, hmore⟩
    obtain ⟨rfl, o1, ho1⟩ := lv_some hi
    have hvw : (viewSt all b sb.nx rgk (nthL as k) sk).H i = some (o1.ren (lvJ (onlyJ (seenB sb.nx rgk (nthL as k)) sk.H))) := by
      show liveH _ i = _
      unfold liveH; rw [ho1]
    obtain ⟨h1, o2, h2, h3⟩ := hview i _ hvw
    refine ⟨h1, rfl, .inr ?_⟩
    rw [hvw, h3, shp_ren, shp_ro, h2]
  refine ⟨⟨fun _ => False, sk.nx, E.φ, fun e => E.im (some e), fun i => shp ((viewSt all b sb.nx rgk (nthL as k) sk).H i)⟩, Ev, fun x h => h, rfl, rfl, fun _ _ => rfl, fun _ => rfl, { keeps := ⟨rfl, rfl, rfl, Nat.le_refl _, fun _ _ _ => rfl⟩, obj := ?_, own := ?_, apart := ?_, imOK := hIok, imS := ?_, imSub := ?_, fresh := ?_, nx_ := rfl, mle := Nat.le_refl _, pin := fun _ _ => rfl, im0 := fun e b _ => hI1 e b, shape := fun i _ => .inr rfl, env := ?_, defers := hdf }, fun id o h => ?_⟩
  · intro id o' ho'
    obtain ⟨h1, o, h2, h3⟩ := hview id o' ho'
    obtain ⟨us, k1, k2⟩ := ObjOK_iff.1 (hr.obj id o h2)
    refine ObjOK_iff.2 ⟨us, by rw [h3]; exact (cont_ro k1).ren G, ?_⟩
    rw [h3, rw_ren, ro_rw]
    rcases k2 with k2 | k2
    · exact .inl k2
    · right
      unfold Blk at k2 ⊢
      rw [if_neg (by simp)]
      cases hrw : o.rw with
      | true =>
        rw [hrw, if_pos rfl] at k2
        obtain ⟨c, t, lo, hi, q1, q2, q3, q4, q5⟩ := k2
        exact ⟨q4, c, (hI2 _ _).2 ⟨_, _, q1⟩, q5⟩
      | false =>
        rw [hrw, if_neg (by simp)] at k2
        obtain ⟨q1, c, q2, q3⟩ := k2
        exact ⟨q1, c, hmore _ _ _ q2, q3⟩
  · intro id o' ho' hrw
    obtain ⟨h1, o, h2, h3⟩ := hview id o' ho'
    rw [h3, rw_ren, ro_rw] at hrw; cases hrw
  · intro i j' x y hx hy hrx
    obtain ⟨h1, o, h2, h3⟩ := hview i x hx
    rw [h3, rw_ren, ro_rw] at hrx; cases hrx
  · intro esc b' c hc
    obtain ⟨t, fz, hg⟩ := hIok _ _ _ hc
    exact .inl ⟨lt_of_get hg, fun h => h⟩
  · intro b' c hc
    exact hmore _ _ _ (hr.imSub b' c (by rw [← hI1]; exact hc))
  · intro id hid
    cases hh : (viewSt all b sb.nx rgk (nthL as k) sk).H id with
    | none => rfl
    | some o => have := (hview id o hh).1; have h0 : sk.nx ≤ id := hid; omega
  · intro i
    show RV Ev _ (cond (hidB all 0 b (nthL as k) i) .junk _) _
    cases hh : hidB all 0 b (nthL as k) i with
    | true => trivial
    | false =>
      have hno : ∀ (m : Nat) (o : Oper), all[m]? = some o → o.dst = some i → b ≤ m → m ∈ nthL as k := fun m o h1 h2 h3 => by
        rcases Classical.em (m ∈ nthL as k) with h4 | h4
        · exact h4
        · have := hid_at (l := all) (n := 0) (b := b) (an := nthL as k) (i := i).2 ⟨m, o, h1, h2, by omega, by rw [Nat.zero_add]; exact h4⟩
          rw [hh] at this; cases this
      have hnh : ¬ Hid all b e D i := by
        rintro ⟨m, o, h1, h2, h3, h4, h5⟩
        rw [hanc m (hno m o h4 h5 h1) h1] at h3; cases h3
      have heq : se.env i = sk.env i := henv i fun m o h1 h2 h3 h4 => by
        have := hA.lt k m (hno m o h3 h4 (by omega)); omega
      have := RV_ren G (hv i hnh)
      rw [heq] at this; exact this
  · obtain ⟨h1, o1, h2, h3⟩ := hview id o h
    exact ⟨h1, o1, h2, by rw [h3, shp_ren, shp_ro]⟩
end
end Go.Eng

namespace Go.Eng
variable {R : Type} {P : Program} {S : Sc} {w0 w w' : World} {E : En} {st : St} {a : Act} {r : R} {H : Nat → Option JObj} {nx : Nat}
variable {C : CallJ PK} {all : List Oper} {as : List (List Nat)} {b : Nat} {sb : St} {j : Nat} {rg : List (Nat × Nat × Nat)}
variable {e k n : Nat} {rge rgk : List (Nat × Nat × Nat)} {se sk vw st' : St} {D : Nat → Bool} {Sv : Sc} {E' : En}
theorem en_ex2 (w : World) (E E' : En) (lo hi nx : Nat) : ∃ E3 : En, E3.nx = nx ∧ (∀ i, ¬ (lo ≤ i ∧ i < hi) → E3.φ i = E.φ i) ∧ (∀ i, lo ≤ i → i < hi → E3.φ i = E'.φ i) ∧ (∀ esc b, b < w.heap.size → E3.im esc b = E.im esc b) ∧ (∀ esc b, w.heap.size ≤ b → E3.im esc b = E'.im esc b) :=
  ⟨⟨nx, fun i => if lo ≤ i ∧ i < hi then E'.φ i else E.φ i, fun esc b => if b < w.heap.size then E.im esc b else E'.im esc b⟩, rfl, fun i h => if_neg h, fun i h1 h2 => if_pos ⟨h1, h2⟩, fun esc b hb => if_pos hb, fun esc b hb => if_neg (by omega)⟩
theorem put_rel (hvn : vw.nx = sk.nx) (hle : st'.nx ≤ se.nx) (hsb : sb.nx ≤ sk.nx) (hm : S.m ≤ sb.nx)
    {H1 H3 : Nat → Option JObj} (hin : ∀ id, sk.nx ≤ id → id < st'.nx → H1 id = none ∧ H3 id = newO vw st' id) (hout : ∀ id, ¬ (sk.nx ≤ id ∧ id < st'.nx) → H3 id = H1 id)
    (hcl : ∀ id o, H1 id = some o → ClO (lvJ H1) o)
    (hr : RepH S w0 E H1 se.nx w) (hvw : ∀ id o, vw.H id = some o → id < sk.nx ∧ ∃ o1, H1 id = some o1 ∧ shp (some o) = shp (some o1))
    (s1 : ∀ x, ¬ Sv.own x) (s2 : Sv.m = sk.nx) (s3 : Sv.φ0 = E.φ) (s4 : ∀ e b, Sv.im0 e b = E.im (some e) b) (s5 : ∀ i, Sv.sh0 i = shp (vw.H i)) (hr' : RepH Sv w E' st'.H st'.nx w') :
    ∃ E3, RepH S w0 E3 H3 se.nx w' ∧ Goes (lvJ H1) E H1 E3 H3 ∧ ∀ v u, RV E' st'.H v u → RV E3 H3 (v.ren (newJ vw st')) u := by
  obtain ⟨E3, e1, e2, e3, e4, e5⟩ := en_ex2 w E E' sk.nx st'.nx se.nx
  have hlow : ∀ id o, H1 id = some o → id < se.nx ∧ ¬ (sk.nx ≤ id ∧ id < st'.nx) := fun id o ho => by
    refine ⟨?_, fun h => ?_⟩
    · rcases Nat.lt_or_ge id se.nx with h | h
      · exact h
      · rw [hr.fresh id h] at ho; cases ho
    · rw [(hin id h.1 h.2).1] at ho; cases ho
  have hkeep : ∀ k, k < w.heap.size → w'.heap[k]? = w.heap[k]? := fun k hk => hr'.keeps.block k hk (s1 k)
  have G : Goes (lvJ H1) E H1 E3 H3 := by
    refine ⟨fun id i hn hi => ?_, fun esc b c hc => ?_⟩
    · obtain ⟨rfl, o, ho⟩ := lv_some hi
      obtain ⟨h1, h2⟩ := hlow _ o ho
      exact ⟨by rw [e1]; exact h1, e2 _ h2, .inr (by rw [hout _ h2])⟩
    · obtain ⟨t, fz, hh⟩ := hr.imOK _ _ _ hc
      rw [e4 _ _ (lt_of_get hh)]; exact hc
  have hL : Lvl E' E3.im := fun e b c hc => by
    rcases Nat.lt_or_ge b w.heap.size with hb | hb
    · rw [e4 _ _ hb, ← s4, ← hr'.im0 e b hb]; exact hc
    · rw [e5 _ _ hb]; exact hc
  have Gb : Goes (newJ vw st') (E'.wim E3.im) st'.H E3 H3 := by
    refine ⟨fun id i hn hi => ?_, fun _ _ _ hc => hc⟩
    unfold newJ at hi
    split at hi
    · rename_i o ho
      cases hb : Nat.blt id vw.nx with
      | true =>
        rw [hb] at hi
        obtain ⟨rfl, o', ho'⟩ := lv_some hi
        obtain ⟨h1, o1, h2, h3⟩ := hvw _ _ ho'
        obtain ⟨h4, h5⟩ := hlow _ _ h2
        refine ⟨by rw [e1]; exact h4, ?_, .inr ?_⟩
        · rw [e2 _ h5]
          show _ = E'.φ i
          rw [hr'.pin i (by rw [s2]; exact h1), s3]
        · rw [hout _ h5, h2]
          rcases hr'.shape i (by rw [s2]; exact h1) with h6 | h6
          · rw [ho] at h6; cases o <;> cases h6
          · rw [h6, s5, ho', h3]
      | false =>
        rw [hb] at hi; simp only [cond_false] at hi
        cases hrw : (o.rw && Nat.blt id st'.nx) with
        | false => rw [hrw] at hi; cases hi
        | true =>
          rw [hrw] at hi; cases hi
          have hrw' := hrw
          rw [Bool.and_eq_true, Nat.blt_eq] at hrw
          have hge : sk.nx ≤ id := by
            rcases Nat.lt_or_ge id vw.nx with h' | h'
            · rw [← Nat.blt_eq, hb] at h'; cases h'
            · omega
          refine ⟨by rw [e1]; omega, e3 _ hge hrw.2, .inr ?_⟩
          rw [(hin _ hge hrw.2).2]
          unfold newO; rw [ho]; simp only; rw [hrw', ]
          exact shp_ren _ _
    · cases hi
  have two : ∀ id o, H3 id = some o → (¬ (sk.nx ≤ id ∧ id < st'.nx) ∧ H1 id = some o) ∨ (sk.nx ≤ id ∧ id < st'.nx ∧ ∃ o2, st'.H id = some o2 ∧ o2.rw = true ∧ o = o2.ren (newJ vw st')) := fun id o ho => by
    by_cases hd : sk.nx ≤ id ∧ id < st'.nx
    · right
      rw [(hin id hd.1 hd.2).2] at ho
      unfold newO at ho
      split at ho
      · rename_i o2 ho2
        cases hrw : (o2.rw && Nat.blt id st'.nx) with
        | false => rw [hrw] at ho; cases ho
        | true =>
          rw [hrw] at ho; cases ho
          rw [Bool.and_eq_true] at hrw
          exact ⟨hd.1, hd.2, o2, ho2, hrw.1, rfl⟩
      · cases ho
    · left; rw [hout id hd] at ho; exact ⟨hd, ho⟩
  have newBlk : ∀ id o2, st'.H id = some o2 → o2.rw = true → 0 < (E'.φ id).room → w.heap.size ≤ (E'.φ id).blk := fun id o2 h1 h2 h3 => (hr'.own id o2 h1 h2 h3).1.resolve_left (s1 _)
  have oldBlk : ∀ id o, H1 id = some o → o.rw = true → 0 < (E.φ id).room → (E.φ id).blk < w.heap.size := fun id o h1 h2 h3 => by
    obtain ⟨us, _, hb⟩ := ObjOK_iff.1 (hr.obj id o h1)
    rcases hb with ⟨_, h0⟩ | hb
    · omega
    · unfold Blk at hb; rw [if_pos h2] at hb
      obtain ⟨c, t, lo, hi, hg, _⟩ := hb
      exact lt_of_get hg
  refine ⟨E3, ⟨?_, ?_, ?_, ?_, ?_, ?_, ?_, ?_, e1, hr.mle, ?_, ?_, ?_⟩, G, fun v u k => RV_ren Gb (lvl_RV hL k)⟩
  · exact hr.keeps.same hr'.keeps.os hr'.keeps.tape hr'.keeps.output hr'.keeps.size fun k hk _ => hkeep k (Nat.lt_of_lt_of_le hk hr.keeps.size)
  · intro id o ho
    rcases two id o ho with ⟨h1, h2⟩ | ⟨h1, h2, o2, h3, h4, rfl⟩
    · have := (hr.obj id o h2).go (w' := w') G (i := id) (e2 id h1) (fun hrw hp => hkeep _ (oldBlk id o h2 hrw hp))
      rwa [hcl id o h2] at this
    · obtain ⟨us, k1, k2⟩ := ObjOK_iff.1 (hr'.obj id o2 h3)
      refine ObjOK_iff.2 ⟨us, (lvl_Cont hL k1).ren Gb, ?_⟩
      rw [e3 id h1 h2, rw_ren]
      rw [h4] at k2 ⊢
      exact k2
  · intro id o ho hrw hp
    rcases two id o ho with ⟨h1, h2⟩ | ⟨h1, h2, o2, h3, h4, rfl⟩
    · rw [e2 id h1] at hp ⊢
      obtain ⟨q1, q2⟩ := hr.own id o h2 hrw hp
      exact ⟨q1, fun esc => by rw [e4 _ _ (oldBlk id o h2 hrw hp)]; exact q2 esc⟩
    · rw [e3 id h1 h2] at hp ⊢
      have hb := newBlk id o2 h3 h4 hp
      exact ⟨.inr (Nat.le_trans hr.keeps.size hb), fun esc => by rw [e5 _ _ hb]; exact (hr'.own id o2 h3 h4 hp).2 esc⟩
  · intro i j x y hx hy hrx hry hpx hpy he
    rcases two i x hx with ⟨h1, h2⟩ | ⟨h1, h2, o2, h3, h4, rfl⟩ <;> rcases two j y hy with ⟨g1, g2⟩ | ⟨g1, g2, o3, g3, g4, rfl⟩
    · rw [e2 i h1] at hpx he; rw [e2 j g1] at hpy he
      exact hr.apart i j x y h2 g2 hrx hry hpx hpy he
    · rw [e2 i h1] at hpx he; rw [e3 j g1 g2] at hpy he
      have q1 := oldBlk i x h2 hrx hpx
      have q2 := newBlk j o3 g3 g4 hpy
      omega
    · rw [e3 i h1 h2] at hpx he; rw [e2 j g1] at hpy he
      have q1 := oldBlk j y g2 hry hpy
      have q2 := newBlk i o2 h3 h4 hpx
      omega
    · rw [e3 i h1 h2] at hpx he; rw [e3 j g1 g2] at hpy he
      exact hr'.apart i j o2 o3 h3 g3 h4 g4 hpx hpy he
  · intro esc b c hc
    rcases Nat.lt_or_ge b w.heap.size with hb | hb
    · rw [e4 _ _ hb] at hc
      obtain ⟨t, fz, hg⟩ := hr.imOK _ _ _ hc
      exact ⟨t, fz, by rw [hkeep b hb]; exact hg⟩
    · rw [e5 _ _ hb] at hc; exact hr'.imOK _ _ _ hc
  · intro esc b c hc
    rcases Nat.lt_or_ge b w.heap.size with hb | hb
    · rw [e4 _ _ hb] at hc; exact hr.imS _ _ _ hc
    · exact .inr (Nat.le_trans hr.keeps.size hb)
  · intro b c hc
    rcases Nat.lt_or_ge b w.heap.size with hb | hb
    · rw [e4 _ _ hb] at hc ⊢; exact hr.imSub _ _ hc
    · rw [e5 _ _ hb] at hc ⊢; exact hr'.imSub _ _ hc
  · intro id hid
    rw [hout id (by omega)]; exact hr.fresh id hid
  · intro i hi
    rw [e2 i (by omega)]; exact hr.pin i hi
  · intro e b hb
    rw [e4 _ _ (Nat.lt_of_lt_of_le hb hr.keeps.size)]; exact hr.im0 e b hb
  · intro i hi
    rw [hout i (by omega)]; exact hr.shape i hi
end Go.Eng

namespace Go.Eng
variable {R : Type} {P : Program} {S : Sc} {w0 w w' : World} {E : En} {st : St} {a : Act} {r : R} {H : Nat → Option JObj} {nx : Nat}
variable {C : CallJ PK} {all : List Oper} {as : List (List Nat)} {b : Nat} {sb : St} {j : Nat} {rg : List (Nat × Nat × Nat)}
variable {e k n : Nat} {rge : List (Nat × Nat × Nat)} {se : St} {D : Nat → Bool} {ops : Array Oper} {Q : Exit → Act → World → Prop}
theorem with_iff {D : Nat → Bool} {k m : Nat} : with_ D k m = true ↔ D m = true ∨ m = k := by
  unfold with_
  rw [Bool.or_eq_true]
  constructor
  · rintro (h | h)
    · exact .inl h
    · exact .inr (Nat.eq_of_beq_eq_true h)
  · rintro (h | rfl)
    · exact .inl h
    · exact .inr (Nat.beq_refl _)
theorem with_false {D : Nat → Bool} {k m : Nat} (h : with_ D k m = false) : D m = false ∧ m ≠ k := by
  constructor
  · cases hd : D m with
    | false => rfl
    | true => rw [with_iff.2 (.inl hd)] at h; cases h
  · intro e; rw [with_iff.2 (.inr e)] at h; cases h
theorem guard_want {o : Oper} {t : Bool} (hops : ops.toList = all) {vw : St} {Sv : Sc} {wv : World} {Ev : En} (hR : Rep Sv wv Ev vw a w) (hg : Guard all o.guard vw t) : Region.wanted o (yielded ops a.tmps) = t := by
  cases hg with
  | none h => unfold Region.wanted; rw [h]
  | @un j want o' d h ho hd hb =>
    have h1 : ops[j]? = some o' := by rw [← Array.getElem?_toList, hops]; exact ho
    have hy : yielded ops a.tmps j = none := yielded_un (by rw [h1]; exact hd) hR hb
    unfold Region.wanted
    rw [h]
    simp only [hy]; rfl
  | @«at» j want o' d b' h ho hd hb =>
    have h1 : ops[j]? = some o' := by rw [← Array.getElem?_toList, hops]; exact ho
    have hy : yielded ops a.tmps j = some b' := by
      unfold yielded; rw [h1]; simp only [Option.bind_some, hd]; rw [RV_bool_at hR hb]
    unfold Region.wanted
    rw [h]
    simp only [hy]
    cases b' <;> cases want <;> rfl
theorem rel_step (hA : AncOK all as) (hone : DstOne all) (hfresh : ∀ id, sb.nx ≤ id → sb.H id = none) (live : Live sb) (h : VR P C all as b sb e rge se) (hD : DCl as b D) (hm : S.m ≤ sb.nx) (hC : CallOK P C) (hops : ops.toList = all)
    (hdst : all.all (dstOk n) = true) (hrel : Rel S w0 all b e sb.nx rge se n D a w) (hbk : b ≤ k) (hke : k < e) (hDk : D k = false) (hanc : ∀ m ∈ nthL as k, b ≤ m → D m = true) :
    wpOp P ops Q k (Rel S w0 all b e sb.nx rge se n (with_ D k)) a w := by
  obtain ⟨hdf, hn, E, hr, hv⟩ := hrel
  obtain ⟨o, rgk, sk, q1, q2, q3, q4, q5, q6⟩ := h.at hone k hbk hke
  obtain ⟨g1, g2, g3, g4⟩ := q2.ge
  obtain ⟨ge1, ge2, ge3, ge4⟩ := h.ge
  have hrg : ∀ x ∈ rgk, x ∈ rge := fun x hx => by
    cases q6 with
    | take _ _ _ _ hmem _ _ => exact (hmem x).2 (.inl hx)
    | skip _ hmem _ => exact (hmem x).2 (.inl hx)
  obtain ⟨Sv, Ev, s1, s2, s3, s4, s5, hR, hvw⟩ := view_rel q2 hke q3 q4 q5 hrg hA hanc hr hv hdf
  have ho : ops[k]? = some o := by rw [← Array.getElem?_toList, hops]; exact q1
  have hdo : ∀ d, o.dst = some d → d < a.tmps.size := fun d hd => by
    rw [hn]; exact dstOk_ok (List.all_eq_true.1 hdst o (List.mem_of_getElem? q1)) d hd
  have hput : ∀ x i, o.dst ≠ some i → (a.put o.dst x).tmps.getD i undef = a.tmps.getD i undef := fun x i hi => by
    cases hd : o.dst with
    | none => rfl
    | some d =>
      rw [hd] at hi
      show (a.tmps.setIfInBounds d x).getD i undef = _
      rw [Array.getD_eq_getD_getElem?, Array.getElem?_setIfInBounds_ne (fun e => hi (by rw [e])), ← Array.getD_eq_getD_getElem?]
  have hputd : ∀ x d, o.dst = some d → (a.put o.dst x).tmps.getD d undef = x := fun x d hd => by
    have hlt := hdo d hd
    rw [hd]
    show (a.tmps.setIfInBounds d x).getD d undef = _
    rw [Array.getD_eq_getD_getElem?, Array.getElem?_setIfInBounds_self_of_lt hlt]; rfl
  have hdef : ∀ x, (a.put o.dst x).defers = [] := fun x => by cases o.dst <;> exact hdf
  have hnot : ∀ i, ¬ Hid all b e (with_ D k) i → o.dst ≠ some i → ¬ Hid all b e D i := fun i hi hne => by
    rintro ⟨m, o', h1, h2, h3, h4, h5⟩
    refine hi ⟨m, o', h1, h2, ?_, h4, h5⟩
    cases hw : with_ D k m with
    | false => rfl
    | true =>
      rcases with_iff.1 hw with hw | rfl
      · rw [h3] at hw; cases hw
      · rw [q1] at h4; cases h4; exact (hne h5).elim
  unfold wpOp
  rw [ho]
  simp only []
  cases q6 with
  | skip hg hmem hd =>
    rw [if_neg (by rw [guard_want hops hR hg]; simp)]
    have hsame : HD sb.nx rge (with_ D k) se.H = HD sb.nx rge D se.H := by
      funext id
      have : visB sb.nx rge (with_ D k) id = visB sb.nx rge D id := by
        rw [Bool.eq_iff_iff, vis_iff, vis_iff]
        constructor
        · rintro (h1 | ⟨x, hx, h3, h4, h5⟩)
          · exact .inl h1
          · refine .inr ⟨x, hx, h3, h4, (with_iff.1 h5).resolve_right fun e0 => ?_⟩
            rcases (hmem x).1 hx with hx | hx
            · have := g3 x hx; omega
            · omega
        · rintro (h1 | ⟨x, hx, h3, h4, h5⟩)
          · exact .inl h1
          · exact .inr ⟨x, hx, h3, h4, with_iff.2 (.inl h5)⟩
      unfold HD; rw [this]
    refine ⟨hdef _, by rw [put_size]; exact hn, E, by rw [hsame]; exact hr, fun i hi => ?_⟩
    rw [hsame]
    by_cases hdi : o.dst = some i
    · rw [hd i hdi, hputd _ i hdi]; exact ⟨_, rfl, rfl⟩
    · rw [hput _ i hdi]; exact hv i (hnot i hi hdi)
  | @take v st' hg hval hnx hle hmem hH hd =>
    rw [if_pos (guard_want hops hR hg)]
    left
    refine (opJ_ok hC hR hval).upon fun x w' hout => ?_
    obtain ⟨E', jv, st1, k1, k2, k3, k4⟩ := hout
    unfold pk at k1
    cases k1
    have hin : ∀ id, sk.nx ≤ id → id < st'.nx → HD sb.nx rge D se.H id = none ∧ HD sb.nx rge (with_ D k) se.H id = newO (viewSt all b sb.nx rgk (nthL as k) sk) st' id := fun id h1 h2 => by
      constructor
      · cases hh : HD sb.nx rge D se.H id with
        | none => rfl
        | some y =>
          obtain ⟨a1, a2⟩ := HD_some.1 hh
          rcases a1 with a1 | ⟨x, hx, a3, a4, a5⟩
          · omega
          · rcases (hmem x).1 hx with hx' | hx' | hx'
            · have := g3 x hx'; omega
            · subst hx'; simp only at a5; rw [hDk] at a5; cases a5
            · omega
      · unfold HD
        rw [vis_iff.2 (.inr ⟨_, (hmem _).2 (.inr (.inl rfl)), h1, h2, with_iff.2 (.inr rfl)⟩)]
        exact hH id h1 h2
    have hsame : ∀ id, ¬ (sk.nx ≤ id ∧ id < st'.nx) → HD sb.nx rge (with_ D k) se.H id = HD sb.nx rge D se.H id := fun id hid => by
      have : visB sb.nx rge (with_ D k) id = visB sb.nx rge D id := by
        rw [Bool.eq_iff_iff, vis_iff, vis_iff]
        constructor
        · rintro (h1 | ⟨x, hx, h3, h4, h5⟩)
          · exact .inl h1
          · refine .inr ⟨x, hx, h3, h4, (with_iff.1 h5).resolve_right fun e0 => ?_⟩
            rcases (hmem x).1 hx with hx' | hx' | hx'
            · have := g3 x hx'; omega
            · subst hx'; exact hid ⟨h3, h4⟩
            · omega
        · rintro (h1 | ⟨x, hx, h3, h4, h5⟩)
          · exact .inl h1
          · exact .inr ⟨x, hx, h3, h4, with_iff.2 (.inl h5)⟩
      unfold HD; rw [this]
    obtain ⟨c1, c2⟩ := h.closed hfresh live D hD
    obtain ⟨E3, r1, r2, r3⟩ := put_rel (vw := viewSt all b sb.nx rgk (nthL as k) sk) rfl hle g2 hm hin hsame c2 hr hvw s1 s2 s3 s4 s5 k4.toRepH
    refine ⟨hdef _, by rw [put_size]; exact hn, E3, r1, fun i hi => ?_⟩
    by_cases hdi : o.dst = some i
    · rw [hd i hdi, hputd _ i hdi]; exact r3 _ _ k3
    · have hni := hnot i hi hdi
      have := RV_ren r2 (hv i hni)
      rw [c1 i hni] at this
      rw [hput _ i hdi]; exact this
end Go.Eng

namespace Go.Eng
variable {R : Type} {P : Program} {S : Sc} {w0 w w' : World} {E : En} {st : St} {a : Act} {r : R} {H : Nat → Option JObj} {nx : Nat}
variable {C : CallJ PK} {all : List Oper} {as : List (List Nat)} {b : Nat} {sb : St} {j : Nat} {rg : List (Nat × Nat × Nat)}
variable {e k n : Nat} {rge : List (Nat × Nat × Nat)} {se : St} {D : Nat → Bool} {ops : Array Oper} {Q : Exit → Act → World → Prop}
theorem on_inv {x : Option PK} {K : K1 R} (h : on x K = some r) : ∃ v st, x = some (v, st) ∧ K v st = some r := by
  unfold on at h; split at h
  · rename_i p; exact ⟨p.1, p.2, rfl, h⟩
  · cases h
theorem drop_cons {l : List Oper} {o : Oper} (h : all.drop j = o :: l) : all[j]? = some o ∧ all.drop (j + 1) = l := by
  constructor
  · have := congrArg (·[0]?) h
    simpa using this
  · have := congrArg (List.drop 1) h
    rw [List.drop_drop] at this; simpa using this
theorem draw_run {C0 : CallJ R} (hN : CallNat C0 C) {K : St → Option R} : ∀ (l : List Oper) (j : Nat) (rg : List (Nat × Nat × Nat)) (st : St), all.drop j = l → b < j → j ≤ all.length → VR P C all as b sb j rg st → drawJ P C0 all as l j b sb.nx rg st K = some r →
    ∃ e rge se, j ≤ e ∧ e ≤ all.length ∧ VR P C all as b sb e rge se ∧ drawJ P C0 all as (all.drop e) e b sb.nx rge se K = some r ∧ (e = all.length ∨ barB as b e = true)
  | [], j, rg, st, hl, hj, hjl, hv, h => by
    refine ⟨j, rg, st, Nat.le_refl _, hjl, hv, by rw [hl]; exact h, .inl ?_⟩
    have := congrArg List.length hl
    simp at this; omega
  | o :: l, j, rg, st, hl, hj, hjl, hv, h => by
    cases hb : barB as b j with
    | true => exact ⟨j, rg, st, Nat.le_refl _, hjl, hv, by rw [hl]; exact h, .inr hb⟩
    | false =>
      obtain ⟨ho, hl'⟩ := drop_cons hl
      have hjl' : j + 1 ≤ all.length := by
        have := congrArg List.length hl
        simp at this; omega
      have hne : Nat.beq j b = false := by
        cases hh : Nat.beq j b with
        | false => rfl
        | true => have := Nat.eq_of_beq_eq_true hh; omega
      unfold drawJ at h
      rw [hb, hne] at h
      simp only [cond_false] at h
      rcases guard_inv h with ⟨hg, h⟩ | ⟨hg, h⟩
      · rw [opJ_nat hN] at h
        obtain ⟨v, st', h1, h2⟩ := on_inv h
        cases hle : Nat.ble st.nx st'.nx with
        | false => rw [hle] at h2; cases h2
        | true =>
          rw [hle] at h2
          obtain ⟨e, rge, se, k1, k2⟩ := draw_run hN l (j + 1) _ _ hl' (by omega) hjl' (hv.take ho hg h1 (Nat.le_of_ble_eq_true hle)) h2
          exact ⟨e, rge, se, by omega, k2⟩
      · obtain ⟨e, rge, se, k1, k2⟩ := draw_run hN l (j + 1) _ _ hl' (by omega) hjl' (hv.skip ho hg) h
        exact ⟨e, rge, se, by omega, k2⟩
theorem draw_start {C0 : CallJ R} (hN : CallNat C0 C) {K : St → Option R} (h : drawJ P C0 all as (all.drop b) b b st.nx [] st K = some r) (hb : barB as b b = false) (hlt : b < all.length) :
    ∃ e rge se, b < e ∧ e ≤ all.length ∧ VR P C all as b (liveSt st) e rge se ∧ drawJ P C0 all as (all.drop e) e b (liveSt st).nx rge se K = some r ∧ (e = all.length ∨ barB as b e = true) := by
  obtain ⟨o, l, hl⟩ : ∃ o l, all.drop b = o :: l := by
    cases hd : all.drop b with
    | nil => have := congrArg List.length hd; simp at this; omega
    | cons o l => exact ⟨o, l, rfl⟩
  rw [hl] at h
  obtain ⟨ho, hl'⟩ := drop_cons hl
  unfold drawJ at h
  rw [hb, Nat.beq_refl] at h
  simp only [cond_false, cond_true] at h
  rcases guard_inv h with ⟨hg, h⟩ | ⟨hg, h⟩
  · rw [opJ_nat hN] at h
    obtain ⟨v, st', h1, h2⟩ := on_inv h
    cases hle : Nat.ble (liveSt st).nx st'.nx with
    | false => rw [hle] at h2; cases h2
    | true =>
      rw [hle] at h2
      have hv := (VR.start (P := P) (C := C) (all := all) (as := as) (b := b) (sb := liveSt st)).take ho hg h1 (Nat.le_of_ble_eq_true hle)
      obtain ⟨e, rge, se, k1, k2⟩ := draw_run hN l (b + 1) _ _ hl' (by omega) (by omega) hv h2
      exact ⟨e, rge, se, by omega, k2⟩
  · have hv := (VR.start (P := P) (C := C) (all := all) (as := as) (b := b) (sb := liveSt st)).skip ho hg
    obtain ⟨e, rge, se, k1, k2⟩ := draw_run hN l (b + 1) _ _ hl' (by omega) (by omega) hv h
    exact ⟨e, rge, se, by omega, k2⟩
theorem VR.full (hfresh : ∀ id, sb.nx ≤ id → sb.H id = none) (h : VR P C all as b sb j rg st) : (∀ id, st.nx ≤ id → st.H id = none) ∧ (∀ id, sb.nx ≤ id → id < st.nx → ∃ x ∈ rg, x.2.1 ≤ id ∧ id < x.2.2) ∧
    ∀ i, (∀ (m : Nat) (o : Oper), b ≤ m → m < j → all[m]? = some o → o.dst ≠ some i) → st.env i = sb.env i := by
  induction h with
  | start => exact ⟨hfresh, fun id h1 h2 => by omega, fun _ _ => rfl⟩
  | @take j rg st o v st' h ho hg hv hn ih =>
    obtain ⟨h1, h2, h3⟩ := ih
    have hge := h.ge
    rw [next_nx]
    refine ⟨fun id hid => ?_, fun id k1 k2 => ?_, fun i hi => ?_⟩
    · rw [next_H_new (by omega)]
      unfold newO
      split
      · rename_i o2 _
        have : Nat.blt id st'.nx = false := by
          cases hb : Nat.blt id st'.nx with
          | false => rfl
          | true => rw [Nat.blt_eq] at hb; omega
        rw [this, Bool.and_false]; rfl
      · rfl
    · rcases Nat.lt_or_ge id st.nx with h4 | h4
      · obtain ⟨x, hx, q⟩ := h2 id k1 h4
        exact ⟨x, List.mem_append_left _ hx, q⟩
      · exact ⟨(j, st.nx, st'.nx), List.mem_append_right _ (by simp), h4, k2⟩
    · rw [next_env_ne (hi j o hge.1 (Nat.lt_succ_self _) ho)]
      exact h3 i fun m o' a1 a2 => hi m o' a1 (by omega)
  | @skip j rg st o h ho hg ih =>
    obtain ⟨h1, h2, h3⟩ := ih
    have hge := h.ge
    rw [set_nx, set_H]
    refine ⟨h1, h2, fun i hi => ?_⟩
    rw [set_env_ne (hi j o hge.1 (Nat.lt_succ_self _) ho)]
    exact h3 i fun m o' a1 a2 => hi m o' a1 (by omega)
theorem live_live (st : St) : Live (liveSt st) := by
  have hs : Sure (lvJ st.H) (lvJ (liveSt st).H) := sure_lv fun id o ho => ⟨_, by show liveH st.H id = _; unfold liveH; rw [ho]⟩
  refine ⟨fun i => ClV.of hs _, fun id o ho => ?_⟩
  have ho : liveH st.H id = some o := ho
  unfold liveH at ho
  split at ho
  · cases ho; exact ClO.of hs _
  · cases ho
theorem live_rep (h : Rep S w0 E st a w) : Rep S w0 E (liveSt st) a w := by
  have hl : ∀ id o, liveH st.H id = some o → ∃ o', st.H id = some o' ∧ o = o'.ren (lvJ st.H) := fun id o ho => by
    unfold liveH at ho
    split at ho
    · rename_i o' ho'; cases ho; exact ⟨o', ho', rfl⟩
    · cases ho
  have hn : ∀ id, st.H id = none → liveH st.H id = none := fun id hi => by unfold liveH; rw [hi]
  have hsh : ∀ id, shp (liveH st.H id) = shp (st.H id) := fun id => by
    cases ho : st.H id with
    | none => rw [hn id ho]
    | some o => unfold liveH; rw [ho]; exact shp_ren _ _
  have G : Goes (lvJ st.H) E st.H E (liveH st.H) := by
    refine ⟨fun id i hi h1 => ?_, fun _ _ _ h => h⟩
    obtain ⟨rfl, o, ho⟩ := lv_some h1
    exact ⟨hi, rfl, .inr (hsh i)⟩
  refine { keeps := h.keeps, obj := ?_, own := ?_, apart := ?_, imOK := h.imOK, imS := h.imS, imSub := h.imSub, fresh := fun id hi => hn id (h.fresh id hi), nx_ := h.nx_, mle := h.mle, pin := h.pin, im0 := h.im0, shape := fun i hi => ?_, env := fun i => RV_ren G (h.env i), defers := h.defers }
  · intro id o ho
    obtain ⟨o', h1, rfl⟩ := hl id o ho
    exact (h.obj id o' h1).go G rfl (fun _ _ => rfl)
  · intro id o ho hr hp
    obtain ⟨o', h1, rfl⟩ := hl id o ho
    exact h.own id o' h1 (by rw [← rw_ren]; exact hr) hp
  · intro i j x y hx hy hrx hry
    obtain ⟨x', h1, rfl⟩ := hl i x hx
    obtain ⟨y', h2, rfl⟩ := hl j y hy
    exact h.apart i j x' y' h1 h2 (by rw [← rw_ren]; exact hrx) (by rw [← rw_ren]; exact hry)
  · show shp (liveH st.H i) = _ ∨ shp (liveH st.H i) = _
    rw [hsh]; exact h.shape i hi
theorem RepH.widen {nx' : Nat} (h : RepH S w0 E H nx w) (hle : nx ≤ nx') : RepH S w0 { E with nx := nx' } H nx' w ∧ Goes some E H { E with nx := nx' } H := by
  have G : Goes some E H { E with nx := nx' } H := ⟨fun id i hn e => by cases e; exact ⟨by show id < nx'; have := h.nx_; omega, rfl, .inr rfl⟩, fun _ _ _ h => h⟩
  refine ⟨⟨h.keeps, fun id o ho => ?_, h.own, h.apart, h.imOK, h.imS, h.imSub, fun id hi => h.fresh id (by omega), rfl, Nat.le_trans h.mle hle, h.pin, h.im0, h.shape⟩, G⟩
  have := (h.obj id o ho).go (w' := w) G (i := id) rfl (fun _ _ => rfl)
  rwa [JObj.ren_some] at this
theorem rel_start (hfresh : ∀ id, sb.nx ≤ id → sb.H id = none) (h : VR P C all as b sb e rge se) (hR : Rep S w0 E sb a w) (hn : a.tmps.size = n) (hD1 : ∀ k, b ≤ k → D k = false) : Rel S w0 all b e sb.nx rge se n D a w := by
  obtain ⟨g1, g2, g3, g4⟩ := h.ge
  have heq : HD sb.nx rge D se.H = sb.H := by
    funext id
    cases hh : HD sb.nx rge D se.H id with
    | some o =>
      obtain ⟨a1, a2⟩ := HD_some.1 hh
      rcases a1 with a1 | ⟨x, hx, a3, a4, a5⟩
      · rw [← a2, g4 id a1]
      · rw [hD1 _ (g3 x hx).1] at a5; cases a5
    | none =>
      rcases Nat.lt_or_ge id sb.nx with h1 | h1
      · cases ho : sb.H id with
        | none => rfl
        | some o =>
          have := HD_some (nb := sb.nx) (rg := rge) (D := D) (H := se.H) (id := id) (o := o).2 ⟨.inl h1, by rw [g4 id h1]; exact ho⟩
          rw [hh] at this; cases this
      · exact (hfresh id h1).symm
  obtain ⟨k1, k2⟩ := hR.toRepH.widen g2
  refine ⟨hR.defers, hn, _, by rw [heq]; exact k1, fun i hi => ?_⟩
  rw [heq, (h.full hfresh).2.2 i fun m o h1 h2 h3 h4 => hi ⟨m, o, h1, h2, hD1 m h1, h3, h4⟩]
  have := RV_ren k2 (hR.env i)
  rwa [ren_some] at this
theorem rel_end (hfresh : ∀ id, sb.nx ≤ id → sb.H id = none) (h : VR P C all as b sb e rge se) (hD1 : ∀ k, b ≤ k → k < e → D k = true) (hrel : Rel S w0 all b e sb.nx rge se n D a w) : ∃ E, Rep S w0 E se a w := by
  obtain ⟨hdf, hn, E, hr, hv⟩ := hrel
  obtain ⟨f1, f2, f3⟩ := h.full hfresh
  obtain ⟨g1, g2, g3, g4⟩ := h.ge
  have heq : HD sb.nx rge D se.H = se.H := by
    funext id
    cases ho : se.H id with
    | none =>
      unfold HD; rw [ho]; cases visB sb.nx rge D id <;> rfl
    | some o =>
      refine HD_some.2 ⟨?_, ho⟩
      rcases Nat.lt_or_ge id sb.nx with h1 | h1
      · exact .inl h1
      · have h2 : id < se.nx := by
          rcases Nat.lt_or_ge id se.nx with h' | h'
          · exact h'
          · rw [f1 id h'] at ho; cases ho
        obtain ⟨x, hx, h3, h4⟩ := f2 id h1 h2
        exact .inr ⟨x, hx, h3, h4, hD1 _ (g3 x hx).1 (g3 x hx).2.1⟩
  rw [heq] at hr hv
  exact ⟨E, { hr with env := fun i => hv i (fun ⟨m, o, h1, h2, h3, _⟩ => (by rw [hD1 m h1 h2] at h3; cases h3)), defers := hdf }⟩
end Go.Eng

namespace Go.Eng
variable {R : Type} {P : Program} {S : Sc} {w0 w w' : World} {E : En} {st : St} {a : Act} {r : R} {H : Nat → Option JObj} {nx : Nat}
variable {C : CallJ PK} {C0 : CallJ R} {as : List (List Nat)} {n : Nat} {ops : Array Oper} {Q : Exit → Act → World → Prop} {K : St → Option R}
def unl (listed : Array Bool) : Nat → Nat
  | 0 => 0
  | n + 1 => unl listed n + (if listed.getD n true = true then 0 else 1)
theorem unl_set {listed : Array Bool} {j : Nat} (h : listed.getD j true = false) : ∀ n, unl (listed.setIfInBounds j true) n + (if j < n then 1 else 0) = unl listed n
  | 0 => by simp [unl]
  | n + 1 => by
    have ih := unl_set h n
    unfold unl
    by_cases hj : j = n
    · subst hj
      have h1 : (listed.setIfInBounds j true).getD j true = true := by
        rcases Nat.lt_or_ge j listed.size with h' | h'
        · simp [h']
        · simp [Array.getElem?_eq_none h']
      rw [h1, h, if_pos rfl, if_neg Bool.false_ne_true, if_pos (Nat.lt_succ_self j)]
      rw [if_neg (Nat.lt_irrefl _)] at ih
      omega
    · have h1 : (listed.setIfInBounds j true).getD n true = listed.getD n true := getD_set_ne true hj
      rw [h1]
      by_cases hl : j < n
      · rw [if_pos hl] at ih; rw [if_pos (show j < n + 1 from by omega)]; omega
      · rw [if_neg hl] at ih; rw [if_neg (show ¬ j < n + 1 from by omega)]; omega
theorem unl_none {listed : Array Bool} : ∀ {n : Nat}, unl listed n = 0 → ∀ k, k < n → listed.getD k true = true
  | 0, _, k, h => by omega
  | n + 1, h, k, hk => by
    unfold unl at h
    split at h
    · rename_i h1
      rcases Nat.lt_or_ge k n with h2 | h2
      · exact unl_none (by omega) k h2
      · have : k = n := by omega
        subst this; exact h1
    · omega
def Inv (P : Program) (C : CallJ PK) (C0 : CallJ R) (as : List (List Nat)) (S : Sc) (w0 : World) (r : R) (K : St → Option R) (n : Nat) (ops : Array Oper) (listed : Array Bool) (a : Act) (w : World) : Prop :=
  listed.size = ops.size ∧ ∃ b e sb rge se, VR P C ops.toList as b sb e rge se ∧ (∀ id, sb.nx ≤ id → sb.H id = none) ∧ (e = b ∨ Live sb) ∧ S.m ≤ sb.nx ∧ e ≤ ops.toList.length ∧ drawJ P C0 ops.toList as (ops.toList.drop e) e b sb.nx rge se K = some r ∧
    (e = ops.toList.length ∨ barB as b e = true) ∧ (∀ k, k < b → listed.getD k false = true) ∧ (∀ k, e ≤ k → listed.getD k false = false) ∧
    (∀ k o, ops.toList[k]? = some o → listed.getD k false = true → ∀ m ∈ edgesOf o, listed.getD m false = true) ∧ Rel S w0 ops.toList b e sb.nx rge se n (fun k => listed.getD k false) a w
theorem covers_at {an : List Nat} : ∀ {m b : Nat}, coversB an b m = true → ∀ k, b ≤ k → k < b + m → k ∈ an
  | 0, b, _, k, h1, h2 => by omega
  | m + 1, b, h, k, h1, h2 => by
    simp only [coversB, Bool.and_eq_true] at h
    by_cases hk : k = b
    · subst hk; exact memB_iff.1 h.1
    · exact covers_at h.2 k (by omega) (by omega)
theorem bound_inv (hN : CallNat C0 C) {listed : Array Bool} {b : Nat} (hs : listed.size = ops.size) (hb : b ≤ ops.toList.length) (hdraw : drawJ P C0 ops.toList as (ops.toList.drop b) b b st.nx [] st K = some r) (hR : Rep S w0 E st a w) (hn : a.tmps.size = n)
    (h1 : ∀ k, k < b → listed.getD k false = true) (h2 : ∀ k, b ≤ k → listed.getD k false = false) (h3 : ∀ k o, ops.toList[k]? = some o → listed.getD k false = true → ∀ m ∈ edgesOf o, listed.getD m false = true) : Inv P C C0 as S w0 r K n ops listed a w := by
  refine ⟨hs, ?_⟩
  have stay : b = ops.toList.length ∨ barB as b b = true → ∃ b e sb rge se, VR P C ops.toList as b sb e rge se ∧ (∀ id, sb.nx ≤ id → sb.H id = none) ∧ (e = b ∨ Live sb) ∧ S.m ≤ sb.nx ∧ e ≤ ops.toList.length ∧ drawJ P C0 ops.toList as (ops.toList.drop e) e b sb.nx rge se K = some r ∧
    (e = ops.toList.length ∨ barB as b e = true) ∧ (∀ k, k < b → listed.getD k false = true) ∧ (∀ k, e ≤ k → listed.getD k false = false) ∧
    (∀ k o, ops.toList[k]? = some o → listed.getD k false = true → ∀ m ∈ edgesOf o, listed.getD m false = true) ∧ Rel S w0 ops.toList b e sb.nx rge se n (fun k => listed.getD k false) a w := fun hor =>
    ⟨b, b, st, [], st, .start, hR.fresh, .inl rfl, hR.mle, hb, hdraw, hor, h1, h2, h3, rel_start (C := C) (P := P) (as := as) hR.fresh .start hR hn h2⟩
  rcases Nat.lt_or_ge b ops.toList.length with hlt | hge
  · cases hbar : barB as b b with
    | true => exact stay (.inr hbar)
    | false =>
      obtain ⟨e, rge, se, k1, k2, k3, k4, k5⟩ := draw_start hN hdraw hbar hlt
      have hR' := live_rep hR
      exact ⟨b, e, liveSt st, rge, se, k3, hR'.fresh, .inr (live_live st), hR'.mle, k2, k4, k5, h1, fun k hk => h2 k (by omega), h3, rel_start hR'.fresh k3 hR' hn h2⟩
  · exact stay (.inl (by omega))
theorem any_run (hN : CallNat C0 C) (hC : CallOK P C) (hC0 : CallOK P C0) (hA : AncOK ops.toList as) (hAl : as.length = ops.toList.length) (hone : DstOne ops.toList) (hdst : ops.toList.all (dstOk n) = true)
    (hQ : ∀ E' st' a' w', K st' = some r → Rep S w0 E' st' a' w' → a'.tmps.size = n → Q .normal a' w') :
    ∀ (fuel : Nat) (listed : Array Bool) (a : Act) (w : World), unl listed ops.size ≤ fuel → Inv P C C0 as S w0 r K n ops listed a w → wpAny P .any ops Q fuel listed a w := by
  have hsz : ops.toList.length = ops.size := by simp
  have done : ∀ (listed : Array Bool) (a : Act) (w : World), Inv P C C0 as S w0 r K n ops listed a w → (∀ k, k < ops.size → listed.getD k false = true) → Q .normal a w := by
    rintro listed a w ⟨hs, b, e, sb, rge, se, i1, i2, i3, i4, i5, i6, i7, i8, i9, i10, i11⟩ hall
    have he : e = ops.toList.length := by
      rcases Nat.lt_or_ge e ops.toList.length with h | h
      · have := i9 e (Nat.le_refl _); rw [hall e (by omega)] at this; cases this
      · omega
    obtain ⟨E, hR⟩ := rel_end i2 i1 (fun k _ hk => hall k (by omega)) i11
    rw [he, List.drop_length] at i6
    exact hQ E se a w i6 hR i11.2.1
  have conv : ∀ {listed : Array Bool} {k : Nat}, listed.size = ops.size → k < ops.size → listed.getD k true = listed.getD k false := fun {listed k} hs hk => by
    simp [show k < listed.size from by omega]
  have noready : ∀ (listed : Array Bool), listed.size = ops.size → Region.ready .any ops listed = [] → ∀ k, k < ops.size → listed.getD k false = true := by
    intro listed hs hr k
    induction k using Nat.strongRecOn with
    | ind k ih =>
      intro hk
      cases hl : listed.getD k false with
      | true => rfl
      | false =>
        have hm : k ∈ Region.ready .any ops listed := by
          refine mem_ready.2 ⟨by rw [conv hs hk]; exact hl, ops[k], by simp [hk], fun e he hb => ?_⟩
          have ho : ops.toList[k]? = some ops[k] := by simp [hk]
          have hed : e.on ∈ edgesOf ops[k] := by
            unfold edgesOf
            refine List.mem_filterMap.2 ⟨e, by simpa using he, by rw [hb]; rfl⟩
          have hlt := hA.lt k e.on (hA.edge k _ ho (by omega) e.on hed)
          exact ih e.on hlt (by omega)
        rw [hr] at hm; cases hm
  intro fuel
  induction fuel with
  | zero =>
    intro listed a w hf hI
    have hs := hI.1
    have hall : ∀ k, k < ops.size → listed.getD k false = true := fun k hk => by rw [← conv hs hk]; exact unl_none (Nat.le_zero.1 hf) k hk
    refine ⟨?_, done listed a w hI hall⟩
    cases hr : Region.ready .any ops listed with
    | nil => rfl
    | cons j l =>
      have hm : j ∈ Region.ready .any ops listed := by rw [hr]; simp
      obtain ⟨h1, o, h2, _⟩ := mem_ready.1 hm
      have hj : j < ops.size := (Array.getElem?_eq_some_iff.1 h2).1
      rw [conv hs hj, hall j hj] at h1; cases h1
  | succ fuel ih =>
    intro listed a w hf hI
    have hs := hI.1
    refine ⟨fun hr => done listed a w hI (noready listed hs hr), fun j hj => ?_⟩
    obtain ⟨h1, o, h2, h3⟩ := mem_ready.1 hj
    have hjs : j < ops.size := (Array.getElem?_eq_some_iff.1 h2).1
    have ho : ops.toList[j]? = some o := by rw [Array.getElem?_toList]; exact h2
    have hDj : listed.getD j false = false := by rw [← conv hs hjs]; exact h1
    have hed : ∀ m ∈ edgesOf o, listed.getD m false = true := fun m hm => by
      unfold edgesOf at hm
      obtain ⟨e, he, heq⟩ := List.mem_filterMap.1 hm
      cases hb : Region.binds .any e with
      | false => rw [hb] at heq; cases heq
      | true => rw [hb] at heq; cases heq; exact h3 e (by simpa using he) hb
    have hfuel : unl (listed.setIfInBounds j true) ops.size ≤ fuel := by
      have := unl_set h1 ops.size
      rw [if_pos hjs] at this; omega
    have hset : ∀ m, (listed.setIfInBounds j true).getD m false = with_ (fun k => listed.getD k false) j m := fun m => by
      by_cases hm : j = m
      · subst hm
        rw [with_iff.2 (.inr rfl)]; simp [show j < listed.size from by omega]
      · rw [getD_set_ne false hm]
        cases hw : listed.getD m false with
        | true => exact (with_iff.2 (.inl hw)).symm
        | false =>
          cases hww : with_ (fun k => listed.getD k false) j m with
          | false => rfl
          | true => rcases with_iff.1 hww with h | h
                    · have h : listed.getD m false = true := h
                      rw [hw] at h; cases h
                    · exact (hm h.symm).elim
    obtain ⟨_, b, e, sb, rge, se, i1, i2, i3, i4, i5, i6, i7, i8, i9, i10, i11⟩ := hI
    have hcl := hA.closed (D := fun k => listed.getD k false = true) hAl (fun k o' ho' hk m hm => i10 k o' ho' hk m hm)
    have hanc : ∀ m ∈ nthL as j, listed.getD m false = true := fun m hm => by
      rcases hA.from_ j o ho (by omega) m hm with h4 | ⟨k, h4, h5⟩
      · exact hed m h4
      · exact hcl k (hed k h4) m h5
    have hedges : ∀ k o', ops.toList[k]? = some o' → (listed.setIfInBounds j true).getD k false = true → ∀ m ∈ edgesOf o', (listed.setIfInBounds j true).getD m false = true := fun k o' ho' hk m hm => by
      rw [hset] at hk ⊢
      rcases with_iff.1 hk with hk | rfl
      · exact with_iff.2 (.inl (i10 k o' ho' hk m hm))
      · rw [ho] at ho'; cases ho'; exact with_iff.2 (.inl (hed m hm))
    rcases Nat.lt_or_ge j e with hje | hje
    · have hbj : b ≤ j := by
        rcases Nat.lt_or_ge j b with h | h
        · rw [i8 j h] at hDj; cases hDj
        · exact h
      have live : Live sb := i3.resolve_left (by omega)
      refine wpOp_mono (fun a' w' hrel => ih _ a' w' hfuel ⟨by simp [hs], b, e, sb, rge, se, i1, i2, i3, i4, i5, i6, i7, fun k hk => by rw [hset]; exact with_iff.2 (.inl (i8 k hk)), fun k hk => ?_, hedges, ?_⟩) (rel_step hA hone i2 live i1 (fun k hk m hm _ => hcl k hk m hm) i4 hC rfl hdst i11 hbj hje hDj (fun m hm _ => hanc m hm))
      · rw [hset]
        cases hw : with_ (fun k => listed.getD k false) j k with
        | false => rfl
        | true => rcases with_iff.1 hw with h | h
                  · have h : listed.getD k false = true := h
                    rw [i9 k hk] at h; cases h
                  · omega
      · rw [show (fun k => (listed.setIfInBounds j true).getD k false) = with_ (fun k => listed.getD k false) j from funext hset]; exact hrel
    · -- a barrier
      have hel : e < ops.toList.length := by omega
      have hbar : barB as b e = true := i7.resolve_left (by omega)
      unfold barB at hbar
      rw [Bool.and_eq_true] at hbar
      have hje' : j = e := by
        rcases Nat.lt_or_ge e j with h | h
        · have hall := List.all_eq_true.1 hbar.2 (nthL as j) (by
            unfold nthL
            rw [List.getElem?_eq_getElem (by omega)]
            simp only
            rw [List.mem_iff_getElem?]
            refine ⟨j - (e + 1), ?_⟩
            rw [List.getElem?_drop, show e + 1 + (j - (e + 1)) = j from by omega, List.getElem?_eq_getElem (by omega)])
          have := hanc e (memB_iff.1 hall)
          rw [i9 e (Nat.le_refl _)] at this; cases this
        · omega
      subst hje'
      have hge := i1.ge
      obtain ⟨E, hR⟩ := rel_end i2 i1 (fun k hk hk' => hanc k (covers_at hbar.1 k hk (by omega))) i11
      have hl : ops.toList.drop j = o :: ops.toList.drop (j + 1) := by
        rw [List.drop_eq_getElem_cons hel]
        rw [List.getElem?_eq_getElem hel] at ho; cases ho; rfl
      rw [hl] at i6
      unfold drawJ at i6
      have hbb : barB as b j = true := by unfold barB; rw [Bool.and_eq_true]; exact hbar
      rw [hbb] at i6
      simp only [cond_true] at i6
      have hdo : ∀ d, o.dst = some d → d < a.tmps.size := fun d hd => by
        rw [i11.2.1]; exact dstOk_ok (List.all_eq_true.1 hdst o (List.mem_of_getElem? ho)) d hd
      have hDall : ∀ k, k < j + 1 → (listed.setIfInBounds j true).getD k false = true := fun k hk => by
        rw [hset]
        by_cases hkj : k = j
        · exact with_iff.2 (.inr hkj)
        · refine with_iff.2 (.inl ?_)
          rcases Nat.lt_or_ge k b with h | h
          · exact i8 k h
          · exact hanc k (covers_at hbar.1 k h (by omega))
      have hDno : ∀ k, j + 1 ≤ k → (listed.setIfInBounds j true).getD k false = false := fun k hk => by
        rw [getD_set_ne false (by omega)]; exact i9 k (by omega)
      unfold wpOp
      rw [h2]
      simp only []
      rcases guard_inv i6 with ⟨hg, h6⟩ | ⟨hg, h6⟩
      · rw [if_pos (guard_want rfl hR hg)]
        left
        refine (opJ_ok hC0 hR h6).upon fun x w' hout => ?_
        obtain ⟨E', jv, st', k1, k2, k3, k4⟩ := hout
        have hR' := k4.put (dst := o.dst) k3 hdo
        refine ih _ _ _ hfuel (bound_inv hN (by simp [hs]) (by omega) ?_ hR' (by rw [put_size]; exact i11.2.1) hDall hDno hedges)
        rw [set_nx]; exact k1
      · rw [if_neg (by rw [guard_want rfl hR hg]; simp)]
        have hR' := hR.put (dst := o.dst) (jv := .tup []) (v := undef) ⟨_, rfl, rfl⟩ hdo
        refine ih _ _ _ hfuel (bound_inv hN (by simp [hs]) (by omega) ?_ hR' (by rw [put_size]; exact i11.2.1) hDall hDno hedges)
        rw [set_nx]; exact h6
theorem rep_false {m : Nat} (k : Nat) : (Array.replicate m false).getD k false = false := by
  rw [Array.getD_eq_getD_getElem?, Array.getElem?_replicate]
  split <;> rfl
theorem anyR_core (hN : CallNat C0 C) (hC : CallOK P C) (hC0 : CallOK P C0) (hdst : ops.toList.all (dstOk n) = true)
    (hQ : ∀ E' st' a' w', K st' = some r → Rep S w0 E' st' a' w' → a'.tmps.size = n → Q .normal a' w') (hJ : anyR P C0 ops st K = some r) (hR : Rep S w0 E st a w) (hn : a.tmps.size = n) : wpAny P .any ops Q ops.size (Array.replicate ops.size false) a { w with drawn := w.drawn + 1 } := by
  unfold anyR at hJ
  split at hJ
  · rename_i as has
    cases hnd : nodupB (dstsOf ops.toList) with
    | false => rw [hnd] at hJ; cases hJ
    | true =>
      rw [hnd] at hJ
      simp only [cond_true] at hJ
      obtain ⟨hA, hAl⟩ := ancs_ok (ops := ops.toList) has (anc_nil _) (by simp)
      have hR' : Rep S w0 E st a { w with drawn := w.drawn + 1 } := { hR.toRepH.heap (w' := { w with drawn := w.drawn + 1 }) rfl rfl rfl rfl with env := hR.env, defers := hR.defers }
      refine (any_run hN hC hC0 hA hAl (dst_one (nodupB_iff hnd)) hdst hQ _ _ _ _ ?_ (bound_inv hN (b := 0) (by simp) (Nat.zero_le _) hJ hR' hn (fun k hk => by omega) (fun k _ => rep_false k) (fun k o _ hk => by rw [rep_false] at hk; cases hk)))
      have : ∀ m, unl (Array.replicate ops.size false) m ≤ m := fun m => by
        induction m with
        | zero => exact Nat.le_refl _
        | succ m ih => unfold unl; split <;> omega
      exact this _
  · cases hJ
end Go.Eng

namespace Go.Eng
variable {R : Type} {P : Program} {S : Sc} {w0 w w' : World} {E : En} {st : St} {a : Act} {r : R} {H : Nat → Option JObj} {nx : Nat}
variable {C : CallJ PK} {C0 : CallJ R} {as : List (List Nat)} {n : Nat} {ops : Array Oper} {Q : Exit → Act → World → Prop} {K : St → Option R}
def onlyQ (N : Act → World → Prop) : Exit → Act → World → Prop
  | .normal, a, w => N a w
  | _, _, _ => False
theorem lets_onlyQ {N : Act → World → Prop} : ¬ LetsOut (onlyQ N) := fun ⟨_, _, h⟩ => h
theorem wp_only {N : Act → World → Prop} {o : Oper} {next next' : Act → World → Prop} (hn : ∀ a w, next a w → next' a w) (h : o.wp P a w next (onlyQ N)) : o.wp P a w next' Q := by
  unfold Oper.wp at h ⊢
  generalize (execOp a.eval o).run P w = res at h ⊢
  cases res with
  | halt x w' => cases x <;> first | exact h.elim | exact h
  | ok x w' =>
    cases x <;> first
      | exact hn _ _ h
      | skip
    case enter f args =>
      refine Calls.mono h fun e w'' he => ?_
      cases e with
      | returned v => exact hn _ _ he
      | panicked c => exact he.elim
      | outgrown => exact (lets_onlyQ he).elim
    case row row args => exact Rows.mono h fun v w'' he => hn _ _ he
    all_goals exact h
theorem wpOp_only {N : Act → World → Prop} {i : Nat} {next next' : Act → World → Prop} (hn : ∀ a w, next a w → next' a w) (h : wpOp P ops (onlyQ N) i next a w) : wpOp P ops Q i next' a w := by
  unfold wpOp at h ⊢
  cases ho : ops[i]? with
  | none => rw [ho] at h; exact hn _ _ h
  | some o =>
    rw [ho] at h
    simp only at h ⊢
    split
    · rename_i h1
      rw [if_pos h1] at h
      rcases h with h | h
      · exact .inl (wp_only hn h)
      · exact (lets_onlyQ h.2).elim
    · rename_i h1
      rw [if_neg h1] at h; exact hn _ _ h
theorem wpAny_only {N : Act → World → Prop} {md : Region.Mode} (h : ∀ a w, N a w → Q .normal a w) : ∀ {fuel : Nat} {listed : Array Bool} {a : Act} {w : World}, wpAny P md ops (onlyQ N) fuel listed a w → wpAny P md ops Q fuel listed a w
  | 0, listed, a, w, hw => ⟨hw.1, h _ _ hw.2⟩
  | fuel + 1, listed, a, w, hw => ⟨fun h1 => h _ _ (hw.1 h1), fun i hi => wpOp_only (fun a w => wpAny_only h) (hw.2 i hi)⟩
theorem edges_mem {o : Oper} {k : Nat} : k ∈ edgesOf o ↔ ∃ e ∈ o.after, Region.binds .any e = true ∧ e.on = k := by
  unfold edgesOf
  rw [List.mem_filterMap]
  constructor
  · rintro ⟨e, h1, h2⟩
    cases hb : Region.binds .any e with
    | false => rw [hb] at h2; cases h2
    | true => rw [hb] at h2; cases h2; exact ⟨e, by simpa using h1, hb, rfl⟩
  · rintro ⟨e, h1, h2, rfl⟩
    exact ⟨e, by simpa using h1, by rw [h2]; rfl⟩
theorem subB_mem {l : List Nat} : ∀ {m : List Nat}, subB m l = true → ∀ i ∈ m, i ∈ l
  | [], _, i, hi => by cases hi
  | j :: r, h, i, hi => by
    simp only [subB, Bool.and_eq_true] at h
    rcases List.mem_cons.1 hi with rfl | hi
    · exact memB_iff.1 h.1
    · exact subB_mem h.2 i hi
theorem apartL_at {oc : Oper} {an : List Nat} {c : Nat} : ∀ {l : List Oper} {j k : Nat} {o : Oper}, apartL ops oc an c l j = true → l[k]? = some o → j + k ≠ c → (j + k) ∉ an → c ∉ edgesOf o → oc.apart ops o = true
  | [], j, k, o, _, h, _, _, _ => by simp at h
  | x :: l, j, 0, o, h, h1, h2, h3, h4 => by
    simp only [List.getElem?_cons_zero, Option.some.injEq] at h1; subst h1
    simp only [apartL, Bool.and_eq_true, Bool.or_eq_true] at h
    rcases h.1 with h | h | h | h
    · exact (h2 (Nat.eq_of_beq_eq_true h)).elim
    · exact (h3 (memB_iff.1 h)).elim
    · exact (h4 (memB_iff.1 h)).elim
    · exact h
  | x :: l, j, k + 1, o, h, h1, h2, h3, h4 => by
    simp only [apartL, Bool.and_eq_true] at h
    exact apartL_at (l := l) (j := j + 1) (k := k) h.2 (by simpa using h1) (by omega) (by rwa [show j + 1 + k = j + (k + 1) by omega]) h4
structure Cpy (ops : Array Oper) (o oc : Oper) (c : Nat) : Prop where
  copy : copyO oc = true
  sub : ∀ i ∈ edgesOf oc, i ∈ edgesOf o
  apart : ∀ j oj, ops[j]? = some oj → j ≠ c → j ∉ edgesOf oc → c ∉ edgesOf oj → oc.apart ops oj = true
theorem sharpE_at {o : Oper} {e : Edge} : ∀ {l : List Oper} {c0 : Nat}, e ∈ sharpE ops o l c0 → ∃ k oc, l[k]? = some oc ∧ e.on = c0 + k ∧ Cpy ops o oc (c0 + k)
  | [], _, h => by cases h
  | oc :: l, c0, h => by
    unfold sharpE at h
    have tail : e ∈ sharpE ops o l (c0 + 1) → ∃ k oc', (oc :: l)[k]? = some oc' ∧ e.on = c0 + k ∧ Cpy ops o oc' (c0 + k) := fun h => by
      obtain ⟨k, oc', h1, h2, h3⟩ := sharpE_at h
      have e1 : c0 + 1 + k = c0 + (k + 1) := by omega
      exact ⟨k + 1, oc', by simpa using h1, by rw [h2, e1], by rwa [e1] at h3⟩
    cases hb : (copyO oc && (!memB c0 (edgesOf o) && (subB (edgesOf oc) (edgesOf o) && apartL ops oc (edgesOf oc) c0 ops.toList 0))) with
    | false => rw [hb] at h; exact tail h
    | true =>
      rw [hb] at h
      rcases List.mem_cons.1 h with rfl | h
      · simp only [Bool.and_eq_true] at hb
        refine ⟨0, oc, rfl, rfl, hb.1, subB_mem hb.2.2.1, fun j oj h1 h2 h3 h4 => ?_⟩
        exact apartL_at (j := 0) (k := j) hb.2.2.2 (by simpa using h1) (by omega) (by rwa [Nat.zero_add]) h4
      · exact tail h
theorem sharpL_get : ∀ {l : List Oper} {j k : Nat}, (sharpL ops l j)[k]? = (l[k]?).map (sharp1 ops (j + k))
  | [], j, k => by simp [sharpL]
  | o :: l, j, 0 => by simp [sharpL]
  | o :: l, j, k + 1 => by
    have := sharpL_get (l := l) (j := j + 1) (k := k)
    rw [show j + 1 + k = j + (k + 1) by omega] at this
    simpa [sharpL] using this
theorem sharp1_sub {j : Nat} {o : Oper} {e : Edge} (h : e ∈ o.after) : e ∈ (sharp1 ops j o).after := by
  unfold sharp1
  cases storeO o with
  | false => exact h
  | true => exact Array.mem_append.2 (.inl h)
theorem sharp1_new {j : Nat} {o : Oper} {e : Edge} (h : e ∈ (sharp1 ops j o).after) : e ∈ o.after ∨ e ∈ sharpE ops o (ops.toList.take j) 0 := by
  unfold sharp1 at h
  cases hs : storeO o with
  | false => rw [hs] at h; exact .inl h
  | true =>
    rw [hs] at h
    rcases Array.mem_append.1 h with h | h
    · exact .inl h
    · exact .inr (by simpa using h)
theorem sharp1_copy {j : Nat} {o : Oper} (h : copyO o = true) : sharp1 ops j o = o := by
  unfold sharp1
  have : storeO o = false := by
    unfold copyO at h; unfold storeO
    split
    · rename_i t x y ho; rw [ho] at h; simp at h
    · rfl
  rw [this]; rfl
theorem sharp1_wp {j : Nat} {o : Oper} {next : Act → World → Prop} : (sharp1 ops j o).wp P a w next Q = o.wp P a w next Q := by
  unfold sharp1; cases storeO o <;> rfl
theorem sharp1_asks {j : Nat} {o : Oper} : (sharp1 ops j o).asks P a w = o.asks P a w := by
  unfold sharp1; cases storeO o <;> rfl
theorem sharp1_dst {j : Nat} {o : Oper} : (sharp1 ops j o).dst = o.dst := by unfold sharp1; cases storeO o <;> rfl
theorem sharp1_want {j : Nat} {o : Oper} {f : Nat → Option Bool} : Region.wanted (sharp1 ops j o) f = Region.wanted o f := by unfold sharp1; cases storeO o <;> rfl
def sharpA (ops : Array Oper) : Array Oper := (sharpL ops ops.toList 0).toArray
theorem sharpA_get {k : Nat} : (sharpA ops)[k]? = (ops[k]?).map (sharp1 ops k) := by
  have := sharpL_get (ops := ops) (l := ops.toList) (j := 0) (k := k)
  rw [Nat.zero_add] at this
  simpa [sharpA] using this
theorem sharpA_size : (sharpA ops).size = ops.size := by
  have : ∀ (l : List Oper) (j : Nat), (sharpL ops l j).length = l.length := by
    intro l
    induction l with
    | nil => intro j; rfl
    | cons o l ih => intro j; simp [sharpL, ih]
  simp [sharpA, this]
theorem sharpA_yielded {tm : Array Value} : yielded (sharpA ops) tm = yielded ops tm := by
  funext j
  unfold Go.yielded
  rw [sharpA_get]
  cases ops[j]? with
  | none => rfl
  | some o => simp only [Option.map_some, Option.bind_some, sharp1_dst]
theorem sharpA_wpOp {i : Nat} {next : Act → World → Prop} (h : wpOp P (sharpA ops) Q i next a w) : wpOp P ops Q i next a w := by
  unfold wpOp at h ⊢
  rw [sharpA_get] at h
  cases ho : ops[i]? with
  | none => rw [ho] at h; exact h
  | some o =>
    rw [ho] at h
    simp only [Option.map_some, sharpA_yielded, sharp1_want, sharp1_wp, sharp1_asks, sharp1_dst] at h
    exact h
theorem ready_sub {i : Nat} {listed : Array Bool} (h : i ∈ Region.ready .any (sharpA ops) listed) : i ∈ Region.ready .any ops listed := by
  obtain ⟨h0, o', ho', h1⟩ := mem_ready.1 h
  rw [sharpA_get] at ho'
  cases ho : ops[i]? with
  | none => rw [ho] at ho'; cases ho'
  | some o =>
    rw [ho] at ho'; cases ho'
    exact mem_ready.2 ⟨h0, o, ho, fun e he hb => h1 e (sharp1_sub he) hb⟩
theorem ready_or {i : Nat} {listed : Array Bool} (hs : listed.size = ops.size) (h : i ∈ Region.ready .any ops listed) : i ∈ Region.ready .any (sharpA ops) listed ∨ ∃ c o oc, ops[c]? = some oc ∧ Cpy ops o oc c ∧ c ∈ Region.ready .any (sharpA ops) listed := by
  by_cases hr : i ∈ Region.ready .any (sharpA ops) listed
  · exact .inl hr
  · right
    obtain ⟨h0, o, ho, h1⟩ := mem_ready.1 h
    by_cases hall : ∀ e ∈ (sharp1 ops i o).after, Region.binds .any e = true → listed.getD e.on false = true
    · exact (hr (mem_ready.2 ⟨h0, _, by rw [sharpA_get, ho]; rfl, hall⟩)).elim
    · have : ∃ e ∈ (sharp1 ops i o).after, Region.binds .any e = true ∧ listed.getD e.on false = false := by
        apply Classical.byContradiction
        intro hn
        refine hall fun e he hb => ?_
        cases hl : listed.getD e.on false with
        | true => rfl
        | false => exact (hn ⟨e, he, hb, hl⟩).elim
      obtain ⟨e, he, hb, hl⟩ := this
      rcases sharp1_new he with h2 | h2
      · rw [h1 e h2 hb] at hl; cases hl
      · obtain ⟨k, oc, h3, h4, h5⟩ := sharpE_at h2
        rw [Nat.zero_add] at h4 h5
        subst h4
        have h3 : ops[e.on]? = some oc := by
          rw [List.getElem?_take] at h3
          split at h3
          · simpa using h3
          · cases h3
        have hlt : e.on < ops.size := (Array.getElem?_eq_some_iff.1 h3).1
        refine ⟨e.on, o, oc, h3, h5, mem_ready.2 ⟨?_, oc, by rw [sharpA_get, h3, Option.map_some, sharp1_copy h5.copy], fun e' he' hb' => ?_⟩⟩
        · have hlt' : e.on < listed.size := by omega
          simpa [hlt'] using hl
        · obtain ⟨e2, h6, h7, h8⟩ := edges_mem.1 (h5.sub _ (edges_mem.2 ⟨e', he', hb', rfl⟩))
          rw [← h8]; exact h1 e2 h6 h7
theorem copy_yields {N : Act → World → Prop} {next : Act → World → Prop} {c : Nat} {oc : Oper} (hc : ops[c]? = some oc) (h : copyO oc = true) (hw : wpOp P ops (onlyQ N) c next a w) : ∃ v, Yields P ops oc v a ∧ next (a.put oc.dst v) w := by
  obtain ⟨dst, op, type, pos, after, guard⟩ := oc
  simp only [copyO, Bool.and_eq_true] at h
  have hg : guard = none := by simpa using h.1
  subst hg
  unfold wpOp at hw
  rw [hc] at hw
  have want : ∀ f, Region.wanted ⟨dst, op, type, pos, after, none⟩ f = true := fun f => rfl
  simp only [want, if_true] at hw
  replace hw := hw.resolve_right fun h => lets_onlyQ h.2
  cases op <;> first | (simp at h; done) | skip
  case move x => exact ⟨a.eval x, .inl ⟨want _, fun w => rfl⟩, hw⟩
  case assign x => exact ⟨a.eval x, .inl ⟨want _, fun w => rfl⟩, hw⟩
  case extract x ix =>
    have e : ∀ w, (execOp a.eval ⟨dst, .extract x ix, type, pos, after, none⟩).run P w = (Instr.extract (a.eval x) ix >>= fun v => pure (.value v)).run P w := fun w => rfl
    unfold Oper.wp at hw
    rw [e] at hw
    unfold Instr.extract at hw e
    split at hw
    · rename_i vs hvs
      split at hw
      · rename_i v hv
        refine ⟨v, .inl ⟨want _, fun w => ?_⟩, hw⟩
        rw [e, hvs]; simp only; rw [hv]; rfl
      · exact hw.elim
    · exact hw.elim
theorem wpAny_sharp {N : Act → World → Prop} (hs : Region.noSelect ops = true) : ∀ (fuel : Nat) (listed : Array Bool) (a : Act) (w : World), listed.size = ops.size → wpAny P .any (sharpA ops) (onlyQ N) fuel listed a w → wpAny P .any ops (onlyQ N) fuel listed a w
  | 0, listed, a, w, hl, h => by
    refine ⟨?_, h.2⟩
    cases hr : Region.ready .any ops listed with
    | nil => rfl
    | cons i l =>
      rcases ready_or hl (i := i) (by rw [hr]; simp) with h1 | ⟨c, _, _, _, _, h1⟩
      · rw [h.1] at h1; cases h1
      · rw [h.1] at h1; cases h1
  | fuel + 1, listed, a, w, hl, h => by
    by_cases hc : ∃ c o oc, ops[c]? = some oc ∧ Cpy ops o oc c ∧ c ∈ Region.ready .any (sharpA ops) listed
    · obtain ⟨c, o, oc, h1, h2, h3⟩ := hc
      obtain ⟨v, hy, hn⟩ := copy_yields h1 h2.copy (sharpA_wpOp (h.2 c h3))
      have hrc := ready_sub h3
      obtain ⟨hc0, oc', hoc', hall⟩ := mem_ready.1 hrc
      rw [h1] at hoc'; cases hoc'
      refine wpAny_first h1 (Region.noSelect_spec hs) (fun ch a w hq => hq) fuel listed a w (fun j oj hj hjc hun hno => ?_) hrc hy (wpAny_sharp hs fuel _ _ _ (by simp [hl]) hn)
      refine h2.apart j oj hj hjc (fun hm => ?_) (fun hm => ?_)
      · obtain ⟨e, he, hb, rfl⟩ := edges_mem.1 hm
        have := hall e he hb
        have hlt : e.on < listed.size := by rw [hl]; exact (Array.getElem?_eq_some_iff.1 hj).1
        simp [hlt] at this hun
        rw [this] at hun; cases hun
      · obtain ⟨e, he, hb, h4⟩ := edges_mem.1 hm
        exact hno e he hb h4
    · refine ⟨fun h0 => h.1 ?_, fun i hi => ?_⟩
      · cases hr : Region.ready .any (sharpA ops) listed with
        | nil => rfl
        | cons i l =>
          have := ready_sub (i := i) (ops := ops) (listed := listed) (by rw [hr]; simp)
          rw [h0] at this; cases this
      · rcases ready_or hl hi with h1 | h1
        · exact wpOp_mono (fun a w => wpAny_sharp hs fuel _ a w (by simp [hl])) (sharpA_wpOp (h.2 i h1))
        · exact (hc h1).elim
theorem any_core (hN : CallNat C0 C) (hC : CallOK P C) (hC0 : CallOK P C0) (hdst : ops.toList.all (dstOk n) = true)
    (hQ : ∀ E' st' a' w', K st' = some r → Rep S w0 E' st' a' w' → a'.tmps.size = n → Q .normal a' w') (hJ : anyJ P C0 ops st K = some r) (hR : Rep S w0 E st a w) (hn : a.tmps.size = n) : wpAny P .any ops Q ops.size (Array.replicate ops.size false) a { w with drawn := w.drawn + 1 } := by
  unfold anyJ sharpJ at hJ
  cases hs : Region.noSelect ops with
  | false => rw [hs] at hJ; exact anyR_core hN hC hC0 hdst hQ hJ hR hn
  | true =>
    rw [hs] at hJ
    have hJ : anyR P C0 (sharpA ops) st K = some r := hJ
    have hdst' : (sharpA ops).toList.all (dstOk n) = true := by
      rw [List.all_eq_true] at hdst ⊢
      intro o ho
      obtain ⟨k, hk⟩ := List.mem_iff_getElem?.1 ho
      have hk : (sharpA ops)[k]? = some o := by simpa using hk
      rw [sharpA_get] at hk
      cases hx : ops[k]? with
      | none => rw [hx] at hk; cases hk
      | some o' =>
        rw [hx] at hk; cases hk
        have := hdst o' (by rw [Array.mem_toList_iff]; exact Array.mem_of_getElem? hx)
        unfold dstOk at this ⊢
        rw [sharp1_dst]; exact this
    have := anyR_core (Q := onlyQ fun a w => Q .normal a w) hN hC hC0 hdst' (fun E' st' a' w' h1 h2 h3 => hQ E' st' a' w' h1 h2 h3) hJ hR hn
    rw [sharpA_size] at this
    exact wpAny_only (fun _ _ h => h) (wpAny_sharp hs _ _ _ _ (by simp) this)
theorem any_ok (hN : CallNat C0 C) (hC : CallOK P C) (hC0 : CallOK P C0) (hm : P.follows .mixedOrders = true) {id : Nat} (hdst : ops.toList.all (dstOk n) = true)
    (hQ : ∀ E' st' a' w', K st' = some r → Rep S w0 E' st' a' w' → a'.tmps.size = n → Q .normal a' w') (hJ : anyJ P C0 ops st K = some r) (hR : Rep S w0 E st a w) (hn : a.tmps.size = n) : (Code.region id ops true).wp P Q a w :=
  wp_region_any hm (any_core hN hC hC0 hdst hQ hJ hR hn)
end Go.Eng

namespace Go.Eng
variable {R : Type} {P : Program} {S : Sc} {w0 w w' : World} {E : En} {st : St} {a : Act} {r : R} {H : Nat → Option JObj} {nx : Nat}
variable {C : CallJ PK} {all : List Oper} {as : List (List Nat)} {n : Nat} {ops : Array Oper} {Q : Exit → Act → World → Prop} {K : St → Option R} {C0 : CallJ R}
theorem shp_someC {o : JObj} : shp (some o) ≠ .none := by cases o <;> simp [shp]
theorem set_env_at {v : JV} {d : Nat} : (st.set (some d) v).env d = v := upd_same _ _ _
def StepC (P : Program) (C : CallJ PK) (all : List Oper) (k : Nat) (s s' : St) : Prop :=
  ∃ o, all[k]? = some o ∧ ((classO P o ≤ 1 ∧ Guard all o.guard s true ∧ ∃ v st', opJ P C o.op o.type (maskC all o s) pk = some (v, st') ∧ s' = s.set o.dst (v.ren (backC s.nx st'.H))) ∨
    (Guard all o.guard s false ∧ s' = s.set o.dst (.tup [])) ∨
    (∃ t a v st', classO P o = 2 ∧ o.op = .store t a v ∧ Guard all o.guard s true ∧ store1J P t (opndJ (maskE all o s) a) (opndJ (maskE all o s) v) (maskE all o s) pk = some (.junk, st') ∧ s' = ⟨s.env, st'.H, s.nx⟩))
theorem store1_same {t : TypeId} {ja jv v : JV} {st st' : St} (h : store1J P t ja jv st pk = some (v, st')) : v = .junk ∧ ∀ i, shp (st'.H i) = shp (st.H i) := by
  have pkE : ∀ {x y : JV} {s s' : St}, pk x s = some (y, s') → x = y ∧ s = s' := fun h => by unfold pk at h; cases h; exact ⟨rfl, rfl⟩
  unfold store1J at h
  cases hc : (Nat.beq (wids jv.cells) (sizeJ P t) && Nat.ble 1 (sizeJ P t)) with
  | false => rw [hc] at h; cases h
  | true =>
    rw [hc] at h; simp only [cond_true] at h
    split at h
    · split at h
      · rename_i ho
        split at h
        · cases h
        · cases h
        · split at h
          · obtain ⟨rfl, rfl⟩ := pkE h
            exact ⟨rfl, put_shp ho (by simp [shp])⟩
          · cases h
      · cases h
    · split at h
      · rename_i ho
        split at h
        · split at h
          · split at h
            · split at h
              · obtain ⟨rfl, rfl⟩ := pkE h
                exact ⟨rfl, put_shp ho (by simp [shp])⟩
              · cases h
            · cases h
          · cases h
        · cases h
      · cases h
    · split at h
      · rename_i ho
        split at h
        · cases h
        · cases h
        · split at h
          · split at h
            · split at h
              · obtain ⟨rfl, rfl⟩ := pkE h
                exact ⟨rfl, put_shp ho (by simp [shp])⟩
              · cases h
            · cases h
          · cases h
      · cases h
    · cases h
theorem calm_class : ∀ {l : List Oper} {j : Nat}, calmL P all as l j = true → ∀ (m : Nat) (o : Oper), l[m]? = some o → classO P o ≤ 2 ∧ (classO P o = 2 → o.dst = none ∧ cmpB P as (j + m) all 0 = true) ∧ ∀ i ∈ seesOf all o, slotB as (j + m) i all 0 = true
  | [], j, h, m, o, hm => by simp at hm
  | x :: l, j, h, m, o, hm => by
    simp only [calmL, Bool.and_eq_true] at h
    cases m with
    | zero =>
      simp only [List.getElem?_cons_zero, Option.some.injEq] at hm; subst hm
      refine ⟨Nat.le_of_ble_eq_true h.1.1, fun h2 => ?_, fun i hi => List.all_eq_true.1 h.2.1 i hi⟩
      have h3 := h.1.2
      rw [h2] at h3
      have h3 : (x.dst.isNone && cmpB P as j all 0) = true := h3
      rw [Bool.and_eq_true] at h3
      exact ⟨by cases hd : x.dst with
        | none => rfl
        | some d => rw [hd] at h3; simp at h3, h3.2⟩
    | succ m =>
      have := calm_class h.2.2 m o (by simpa using hm)
      rw [show j + (m + 1) = j + 1 + m by omega]; exact this
theorem cmp_at {j : Nat} : ∀ {l : List Oper} {k : Nat}, cmpB P as j l k = true → ∀ (m : Nat) (o : Oper), l[m]? = some o → k + m = j ∨ classO P o = 0 ∨ k + m ∈ nthL as j ∨ j ∈ nthL as (k + m)
  | [], k, h, m, o, hm => by simp at hm
  | x :: l, k, h, m, o, hm => by
    simp only [cmpB, Bool.and_eq_true] at h
    cases m with
    | zero =>
      simp only [List.getElem?_cons_zero, Option.some.injEq] at hm; subst hm
      have h1 := h.1
      simp only [Bool.or_eq_true, memB_iff] at h1
      rw [Nat.add_zero]
      rcases h1 with h1 | h1 | h1 | h1
      · exact .inl (Nat.eq_of_beq_eq_true h1)
      · exact .inr (.inl (Nat.eq_of_beq_eq_true h1))
      · exact .inr (.inr (.inl h1))
      · exact .inr (.inr (.inr h1))
    | succ m =>
      have := cmp_at h.2 m o (by simpa using hm)
      rw [show k + (m + 1) = k + 1 + m by omega]; exact this
theorem class_store {o : Oper} : classO P o = 2 → ∃ t a v, o.op = .store t a v := by
  intro h
  unfold classO at h
  split at h <;> first | (cases h; done) | (rename_i t a v he; exact ⟨t, a, v, he⟩) | skip
  · unfold binC at h; split at h <;> cases h
  · split at h <;> cases h
  · split at h <;> first | (cases h; done) | (split at h <;> cases h)
theorem class_store2 {o : Oper} {t : TypeId} {a v : Operand} (h : o.op = .store t a v) (h2 : classO P o ≤ 2) : classO P o = 2 := by
  unfold classO at h2 ⊢
  rw [h] at h2 ⊢
  simp only [] at h2 ⊢
  split at h2
  · omega
  · rfl
theorem calm_run (hN : CallNat C0 C) : ∀ (l : List Oper) (j : Nat) (st : St), all.drop j = l → (∀ (k : Nat) (o : Oper), all[k]? = some o → classO P o ≤ 2) → calmJ P C0 all l st K = some r →
    ∃ tr : Nat → St, tr j = st ∧ (∀ k, j ≤ k → k < j + l.length → StepC P C all k (tr k) (tr (k + 1))) ∧ K (tr (j + l.length)) = some r
  | [], j, st, hl, hc, h => ⟨fun _ => st, rfl, fun k h1 h2 => by simp at h2; omega, h⟩
  | o :: l, j, st, hl, hc, h => by
    obtain ⟨ho, hl'⟩ := drop_cons hl
    have go : ∀ s', calmJ P C0 all l s' K = some r → StepC P C all j st s' → ∃ tr : Nat → St, tr j = st ∧ (∀ k, j ≤ k → k < j + (o :: l).length → StepC P C all k (tr k) (tr (k + 1))) ∧ K (tr (j + (o :: l).length)) = some r := by
      intro s' h1 h2
      obtain ⟨tr, t1, t2, t3⟩ := calm_run hN l (j + 1) s' hl' hc h1
      refine ⟨fun i => if i ≤ j then st else tr i, by simp, fun k h3 h4 => ?_, ?_⟩
      · rcases Nat.eq_or_lt_of_le h3 with rfl | h3
        · simp only [Nat.le_refl, if_true]; rw [if_neg (by omega), t1]; exact h2
        · simp only []; rw [if_neg (by omega), if_neg (by omega)]; exact t2 k (by omega) (by simp at h4; omega)
      · simp only [List.length_cons]; rw [if_neg (by omega), show j + (l.length + 1) = j + 1 + l.length by omega]; exact t3
    unfold calmJ at h
    rcases guard_inv h with ⟨hg, h⟩ | ⟨hg, h⟩
    · split at h
      · rename_i t a v he
        rw [store1J_nat] at h
        obtain ⟨v', st', h1, h2⟩ := on_inv h
        obtain ⟨rfl, _⟩ := store1_same h1
        exact go _ h2 ⟨o, ho, .inr (.inr ⟨t, a, v, st', class_store2 he (hc j o ho), he, hg, h1, rfl⟩)⟩
      · rename_i hne
        rw [opJ_nat hN] at h
        obtain ⟨v, st', h1, h2⟩ := on_inv h
        have hcl : classO P o ≤ 1 := by
          have h3 := hc j o ho
          have h4 : classO P o ≠ 2 := fun h5 => by obtain ⟨t, a, v, he⟩ := class_store h5; exact hne t a v he
          omega
        exact go _ h2 ⟨o, ho, .inl ⟨hcl, hg, v, st', h1, rfl⟩⟩
    · exact go _ h ⟨o, ho, .inr (.inl ⟨hg, rfl⟩)⟩
section
variable {tr : Nat → St} (htr : ∀ k, k < all.length → StepC P C all k (tr k) (tr (k + 1)))
include htr
theorem tr_same : ∀ k, k ≤ all.length → (tr k).nx = (tr 0).nx ∧ (∀ i, shp ((tr k).H i) = shp ((tr 0).H i)) ∧ ∀ i, (∀ m o, m < k → all[m]? = some o → o.dst ≠ some i) → (tr k).env i = (tr 0).env i
  | 0, _ => ⟨rfl, fun _ => rfl, fun _ _ => rfl⟩
  | k + 1, hk => by
    obtain ⟨h1, h2, h3⟩ := tr_same k (by omega)
    obtain ⟨o, ho, h | h | h⟩ := htr k (by omega)
    · obtain ⟨_, _, v, st', _, e⟩ := h
      rw [e]
      exact ⟨set_nx.trans h1, fun i => by rw [set_H]; exact h2 i, fun i hi => (set_env_ne (hi k o (by omega) ho)).trans (h3 i fun m o hm => hi m o (by omega))⟩
    · rw [h.2]
      exact ⟨set_nx.trans h1, fun i => by rw [set_H]; exact h2 i, fun i hi => (set_env_ne (hi k o (by omega) ho)).trans (h3 i fun m o hm => hi m o (by omega))⟩
    · obtain ⟨t, a, v, st', _, _, _, hs, e⟩ := h
      rw [e]
      exact ⟨h1, fun i => ((store1_same hs).2 i).trans (h2 i), fun i hi => h3 i fun m o hm => hi m o (by omega)⟩
theorem tr_env (hd2 : ∀ (k : Nat) (o : Oper), all[k]? = some o → classO P o = 2 → o.dst = none) : ∀ d k, k + d ≤ all.length → ∀ i, (∀ m o, k ≤ m → m < k + d → all[m]? = some o → o.dst ≠ some i) → (tr (k + d)).env i = (tr k).env i
  | 0, k, _, i, _ => rfl
  | d + 1, k, hk, i, hi => by
    rw [← tr_env hd2 d k (by omega) i fun m o h1 h2 => hi m o h1 (by omega)]
    obtain ⟨o, ho, h | h | h⟩ := htr (k + d) (by omega)
    · obtain ⟨_, _, v, st', _, e⟩ := h
      rw [show k + (d + 1) = k + d + 1 by omega, e]; exact set_env_ne (hi (k + d) o (by omega) (by omega) ho)
    · rw [show k + (d + 1) = k + d + 1 by omega, h.2]; exact set_env_ne (hi (k + d) o (by omega) (by omega) ho)
    · obtain ⟨t, a, v, st', _, _, _, hs, e⟩ := h
      rw [show k + (d + 1) = k + d + 1 by omega, e]
theorem tr_heap : ∀ d k, k + d ≤ all.length → (∀ m o, k ≤ m → m < k + d → all[m]? = some o → classO P o ≠ 2) → (tr (k + d)).H = (tr k).H
  | 0, k, _, _ => rfl
  | d + 1, k, hk, hi => by
    rw [← tr_heap d k (by omega) fun m o h1 h2 => hi m o h1 (by omega)]
    obtain ⟨o, ho, h | h | h⟩ := htr (k + d) (by omega)
    · obtain ⟨_, _, v, st', _, e⟩ := h
      rw [show k + (d + 1) = k + d + 1 by omega, e]; exact set_H
    · rw [show k + (d + 1) = k + d + 1 by omega, h.2]; exact set_H
    · obtain ⟨t, a, v, st', h2, he, _, hs, e⟩ := h
      exact (hi (k + d) o (by omega) (by omega) ho h2).elim
end
theorem slot_at {j i : Nat} : ∀ {l : List Oper} {k : Nat}, slotB as j i l k = true → ∀ (m : Nat) (o : Oper), l[m]? = some o → o.dst = some i → (k + m < j ∧ k + m ∈ nthL as j) ∨ (j < k + m ∧ j ∈ nthL as (k + m))
  | [], k, h, m, o, hm, hd => by simp at hm
  | x :: l, k, h, m, o, hm, hd => by
    simp only [slotB, Bool.and_eq_true] at h
    cases m with
    | zero =>
      simp only [List.getElem?_cons_zero, Option.some.injEq] at hm; subst hm
      have h1 := h.1
      rw [hd] at h1
      simp only [Nat.beq_refl, cond_true, Bool.or_eq_true, Bool.and_eq_true, memB_iff] at h1
      rw [Nat.add_zero]
      rcases h1 with h1 | h1
      · exact .inl ⟨by have := h1.1; rw [Nat.blt_eq] at this; exact this, h1.2⟩
      · exact .inr ⟨by have := h1.1; rw [Nat.blt_eq] at this; exact this, h1.2⟩
    | succ m =>
      have := slot_at h.2 m o (by simpa using hm) hd
      rw [show k + (m + 1) = k + 1 + m by omega]; exact this
theorem Guard.mask {o : Oper} {t : Bool} (h : Guard all o.guard st t) : Guard all o.guard (maskC all o st) t := by
  have hs : ∀ {j : Nat} {want : Bool} {o' : Oper} {d : Nat}, o.guard = some (j, want) → all[j]? = some o' → o'.dst = some d → (maskC all o st).env d = st.env d := fun {j want o' d} h1 h2 h3 => by
    show cond (memB d (seesOf all o)) (st.env d) .junk = _
    have : memB d (seesOf all o) = true := memB_iff.2 (by unfold seesOf guardSlot; rw [h1]; simp only [h2, h3]; simp)
    rw [this]; rfl
  cases h with
  | none h => exact .none h
  | «at» h ho hd hb => exact .at h ho hd (by rw [hs h ho hd]; exact hb)
  | un h ho hd hb => exact .un h ho hd (by rw [hs h ho hd]; exact hb)

theorem Guard.maskE {o : Oper} {t : Bool} (h : Guard all o.guard st t) : Guard all o.guard (maskE all o st) t := by
  have h1 := h.mask
  cases h1 with
  | none q => exact .none q
  | «at» q ho hd hb => exact .at q ho hd hb
  | un q ho hd hb => exact .un q ho hd hb
theorem Guard.heap {g : Option (Nat × Bool)} {t : Bool} {H' : Nat → Option JObj} {nx' : Nat} (h : Guard all g st t) : Guard all g ⟨st.env, H', nx'⟩ t := by
  cases h with
  | none h => exact .none h
  | «at» h ho hd hb => exact .at h ho hd hb
  | un h ho hd hb => exact .un h ho hd hb
def RelC (P : Program) (S : Sc) (w0 : World) (all : List Oper) (tr : Nat → St) (n : Nat) (D : Nat → Bool) (a : Act) (w : World) : Prop :=
  a.defers = [] ∧ a.tmps.size = n ∧ ∃ E p, p ≤ all.length ∧ (∀ (j : Nat) (o : Oper), all[j]? = some o → classO P o = 2 → (D j = true ↔ j < p)) ∧ RepH S w0 E (tr p).H (tr 0).nx w ∧
    (∀ i, (∀ (m : Nat) (o : Oper), all[m]? = some o → o.dst = some i → D m = false) → RV E (tr p).H ((tr 0).env i) (a.tmps.getD i undef)) ∧
    ∀ (m : Nat) (o : Oper) (i : Nat), all[m]? = some o → o.dst = some i → D m = true → RV E (tr p).H ((tr all.length).env i) (a.tmps.getD i undef)
theorem RV_shp {H' : Nat → Option JObj} (hs : ∀ i, shp (H' i) = shp (H i)) {v : JV} {u : Value} (h : RV E H v u) : RV E H' v u := by
  have := RV_ren (f := some) (E' := E) (H' := H') ⟨fun id i hn e => by cases e; exact ⟨hn, rfl, .inr (hs id)⟩, fun _ _ _ h => h⟩ h
  rwa [ren_some] at this
theorem shp_ro_eq {H H' : Nat → Option JObj} (hs : ∀ i, shp (H' i) = shp (H i)) (i : Nat) : shp (roH H' i) = shp (roH H i) := by
  have f : ∀ K : Nat → Option JObj, shp (roH K i) = shp (K i) := fun K => by
    unfold roH
    cases K i with
    | none => rfl
    | some o => exact shp_ro o
  rw [f, f, hs]
theorem lv_eq {H H' : Nat → Option JObj} (hs : ∀ i, shp (H' i) = shp (H i)) : lvJ H' = lvJ H := by
  funext i
  have h := hs i
  unfold lvJ
  cases h1 : H i with
  | none =>
    cases h2 : H' i with
    | none => rfl
    | some o => rw [h1, h2] at h; exact (shp_someC h).elim
  | some o =>
    cases h2 : H' i with
    | none => rw [h1, h2] at h; exact (shp_someC h.symm).elim
    | some o' => rfl
theorem shp_box {o : Option JObj} (h : shp o = .box) : ∃ cs rw, o = some (.box cs rw) := by
  cases o with
  | none => cases h
  | some o => cases o with
    | box cs rw => exact ⟨cs, rw, rfl⟩
    | row e l rw => cases h
theorem shp_row {o : Option JObj} {e : EK} {n : Nat} (h : shp o = .row e n) : ∃ (l : List e.T) (rw : Bool), o = some (.row e l rw) ∧ l.length = n := by
  cases o with
  | none => cases h
  | some o => cases o with
    | box cs rw => cases h
    | row e' l rw => cases h; exact ⟨l, rw, rfl, rfl⟩
theorem pickD_free {id off i : Nat} {st s' : St} {v : JV} : ∀ {f k : Nat}, pickD id off i st pk k f = some (v, s') → s' = st ∧ ∀ st2 : St, pickD id off i st2 pk k f = some (v, st2)
  | 0, k, h => by cases h
  | f + 1, k, h => by
    unfold pickD at h
    split at h
    · rename_i hi
      unfold pk at h
      cases h
      exact ⟨rfl, fun st2 => by unfold pickD; rw [if_pos hi]; rfl⟩
    · rename_i hi
      obtain ⟨h1, h2⟩ := pickD_free h
      exact ⟨h1, fun st2 => by unfold pickD; rw [if_neg hi]; exact h2 st2⟩
theorem pick_free {id off : Nat} {i : Int} {st s' : St} {v : JV} : ∀ {f k : Nat}, pickB id off i st pk k f = some (v, s') → s' = st ∧ ∀ st2 : St, pickB id off i st2 pk k f = some (v, st2)
  | 0, k, h => by cases h
  | f + 1, k, h => by
    unfold pickB at h
    split at h
    · rename_i hi
      unfold pk at h
      cases h
      exact ⟨rfl, fun st2 => by unfold pickB; rw [if_pos hi]; rfl⟩
    · rename_i hi
      obtain ⟨h1, h2⟩ := pick_free h
      exact ⟨h1, fun st2 => by unfold pickB; rw [if_neg hi]; exact h2 st2⟩
theorem bin_free {op : BinOp} (ho : binC op = 0) {t : TypeId} {x y v : JV} {st s' : St} (h : binJ P op t x y st pk = some (v, s')) : s' = st ∧ ∀ st2 : St, binJ P op t x y st2 pk = some (v, st2) := by
  have ho : op = .add ∨ op = .sub ∨ op = .mul := by cases op <;> first | (simp; done) | (cases ho; done)
  unfold binJ at h ⊢
  split at h
  · rcases ho with rfl | rfl | rfl <;>
      (simp only at h ⊢
       split at h
       · rename_i hk
         unfold intOp pk at h; cases h
         exact ⟨rfl, fun st2 => by rw [if_pos hk]; rfl⟩
       · cases h)
  · rcases ho with rfl | rfl | rfl
    · simp only at h ⊢
      split at h
      · rename_i hk
        unfold pk at h; cases h
        exact ⟨rfl, fun st2 => by rw [if_pos hk]; rfl⟩
      · cases h
    · cases h
    · cases h
  · rcases ho with rfl | rfl | rfl <;> cases h
theorem free_same {o : Oper} (h0 : classO P o = 0) {v : JV} {s' : St} (h : opJ P C o.op o.type st pk = some (v, s')) : s' = st ∧ ∀ H' : Nat → Option JObj, (∀ i, shp (H' i) = shp (st.H i)) → opJ P C o.op o.type ⟨st.env, H', st.nx⟩ pk = some (v, ⟨st.env, H', st.nx⟩) := by
  have pkE : ∀ {x y : JV} {s s' : St}, pk x s = some (y, s') → x = y ∧ s = s' := fun h => by unfold pk at h; cases h; exact ⟨rfl, rfl⟩
  have opE : ∀ (H' : Nat → Option JObj) (x : Operand), opndJ ⟨st.env, H', st.nx⟩ x = opndJ st x := fun H' x => by cases x <;> rfl
  unfold classO at h0
  split at h0 <;> try (cases h0; done)
  · rename_i x he; rw [he] at h ⊢
    obtain ⟨rfl, rfl⟩ := pkE (show pk (opndJ st x) st = _ from h)
    exact ⟨rfl, fun H' _ => by show pk (opndJ _ x) _ = _; rw [opE]; rfl⟩
  · rename_i x he; rw [he] at h ⊢
    obtain ⟨rfl, rfl⟩ := pkE (show pk (opndJ st x) st = _ from h)
    exact ⟨rfl, fun H' _ => by show pk (opndJ _ x) _ = _; rw [opE]; rfl⟩
  · rename_i x he; rw [he] at h ⊢
    simp only [opJ, opE] at h ⊢
    split at h
    · rename_i id off hx
      split at h
      · rename_i cs rw ho
        obtain ⟨rfl, rfl⟩ := pkE h
        refine ⟨rfl, fun H' hs => ?_⟩
        obtain ⟨cs', rw', h'⟩ := shp_box (show shp (H' id) = .box by rw [hs, ho]; rfl)
        rw [h']; rfl
      · cases h
    · cases h
  · rename_i t x f he; rw [he] at h ⊢
    simp only [opJ, opE] at h ⊢
    unfold fieldAddrJ at h ⊢
    split at h
    · rename_i fs hu
      split at h
      · rename_i fl hf
        cases hz : Nat.beq (sizeJ P fl.type) 0 with
        | true => rw [hz] at h; cases h
        | false =>
          rw [hz] at h; simp only [cond_false] at h
          split at h
          · rename_i id off hx
            split at h
            · rename_i cs rw ho
              obtain ⟨rfl, rfl⟩ := pkE h
              refine ⟨rfl, fun H' hs => ?_⟩
              obtain ⟨cs', rw', h'⟩ := shp_box (show shp (H' id) = .box by rw [hs, ho]; rfl)
              simp only [hu, hf, hz, cond_false, h']; rfl
            · cases h
          · rename_i id i c hx
            split at h
            · rename_i e l rw ho
              obtain ⟨rfl, rfl⟩ := pkE h
              refine ⟨rfl, fun H' hs => ?_⟩
              obtain ⟨l', rw', h', _⟩ := shp_row (show shp (H' id) = .row e l.length by rw [hs, ho]; rfl)
              simp only [hu, hf, hz, cond_false, h']; rfl
            · cases h
          · rename_i esc cs hx
            split at h
            · rename_i cs' hd
              obtain ⟨rfl, rfl⟩ := pkE h
              refine ⟨rfl, fun H' hs => ?_⟩
              simp only [hu, hf, hz, cond_false, hd]; rfl
            · cases h
          · cases h
      · cases h
    · cases h
  · rename_i t x i he; rw [he] at h ⊢
    simp only [opJ, opE] at h ⊢
    unfold indexAddrJ at h ⊢
    split at h
    · rename_i k i hi
      split at h
      · rename_i el hu
        split at h
        · rename_i id hx
          split at h
          · rename_i e l rw ho
            cases hc : (Nat.beq (sizeJ P el) e.w && Nat.ble 1 e.w) with
            | false => rw [hc] at h; cases h
            | true =>
              rw [hc] at h; simp only [cond_true] at h
              split at h
              · rename_i hb
                obtain ⟨rfl, rfl⟩ := pkE h
                refine ⟨rfl, fun H' hs => ?_⟩
                obtain ⟨l', rw', h', hl⟩ := shp_row (show shp (H' id) = .row e l.length by rw [hs, ho]; rfl)
                simp only [hu, h', hc, cond_true, hl, if_pos hb]; rfl
              · cases h
          · cases h
        · rename_i id off n hx
          split at h
          · rename_i e l rw ho
            cases hc : (Nat.beq (sizeJ P el) e.w && Nat.ble 1 e.w) with
            | false => rw [hc] at h; cases h
            | true =>
              rw [hc] at h; simp only [cond_true] at h
              split at h
              · rename_i hb
                obtain ⟨rfl, rfl⟩ := pkE h
                refine ⟨rfl, fun H' hs => ?_⟩
                obtain ⟨l', rw', h', hl⟩ := shp_row (show shp (H' id) = .row e l.length by rw [hs, ho]; rfl)
                simp only [hu, h', hc, cond_true, if_pos hb]; rfl
              · cases h
          · rename_i cs rw ho
            cases hc : Nat.beq (sizeJ P el) 1 with
            | false => rw [hc] at h; cases h
            | true =>
              rw [hc] at h; simp only [cond_true] at h
              cases hint : isIntJ P el with
              | true =>
                rw [hint, cond_true] at h
                split at h
                · rename_i hb
                  obtain ⟨rfl, hp⟩ := pickD_free h
                  refine ⟨rfl, fun H' hs => ?_⟩
                  obtain ⟨cs', rw', h'⟩ := shp_box (show shp (H' id) = .box by rw [hs, ho]; rfl)
                  simp only [hu, h', hc, hint, cond_true, if_pos hb]
                  exact hp _
                · cases h
              | false =>
                rw [hint, cond_false] at h
                split at h
                · rename_i hb
                  obtain ⟨rfl, hp⟩ := pick_free h
                  refine ⟨rfl, fun H' hs => ?_⟩
                  obtain ⟨cs', rw', h'⟩ := shp_box (show shp (H' id) = .box by rw [hs, ho]; rfl)
                  simp only [hu, h', hc, hint, cond_true, cond_false, if_pos hb]
                  exact hp _
                · cases h
          · cases h
        · rename_i esc e l hx
          cases hc : (Nat.beq (sizeJ P el) e.w && Nat.ble 1 e.w) with
          | false => rw [hc] at h; cases h
          | true =>
            rw [hc] at h; simp only [cond_true] at h
            split at h
            · rename_i hb
              obtain ⟨rfl, rfl⟩ := pkE h
              exact ⟨rfl, fun H' hs => by simp only [hu, hc, cond_true, if_pos hb]; rfl⟩
            · cases h
        · cases h
      · rename_i n el hu
        split at h
        · rename_i kk ha
          split at h
          · rename_i id off hx
            split at h
            · rename_i cs rw ho
              split at h
              · rename_i hb
                obtain ⟨rfl, rfl⟩ := pkE h
                refine ⟨rfl, fun H' hs => ?_⟩
                obtain ⟨cs', rw', h'⟩ := shp_box (show shp (H' id) = .box by rw [hs, ho]; rfl)
                simp only [hu, ha, h', if_pos hb]; rfl
              · cases h
            · cases h
          · rename_i id off d hx
            split at h
            · rename_i cs rw ho
              split at h
              · rename_i hb
                obtain ⟨rfl, rfl⟩ := pkE h
                refine ⟨rfl, fun H' hs => ?_⟩
                obtain ⟨cs', rw', h'⟩ := shp_box (show shp (H' id) = .box by rw [hs, ho]; rfl)
                simp only [hu, ha, h', if_pos hb]; rfl
              · cases h
            · cases h
          · cases h
        · rename_i ha
          split at h
          · rename_i id off hx
            split at h
            · rename_i cs rw ho
              split at h
              · rename_i j
                cases hc : (Nat.blt j n && Nat.ble 1 (sizeJ P el)) with
                | false => rw [hc] at h; cases h
                | true =>
                  rw [hc] at h; simp only [cond_true] at h
                  obtain ⟨rfl, rfl⟩ := pkE h
                  refine ⟨rfl, fun H' hs => ?_⟩
                  obtain ⟨cs', rw', h'⟩ := shp_box (show shp (H' id) = .box by rw [hs, ho]; rfl)
                  simp only [hu, ha, h', hc, cond_true]; rfl
              · cases h
            · cases h
          · cases h
      · cases h
    · cases h
  · rename_i bop t x y t2 he; rw [he] at h ⊢
    have h : binJ P bop t (opndJ st x) (opndJ st y) st pk = some (v, s') := h
    obtain ⟨h1, h2⟩ := bin_free h0 h
    refine ⟨h1, fun H' _ => ?_⟩
    show binJ P bop t (opndJ _ x) (opndJ _ y) _ pk = _
    rw [opE, opE]; exact h2 _
  · split at h0 <;> cases h0
  · split at h0 <;> cases h0
  · split at h0 <;> first | (cases h0; done) | (split at h0 <;> cases h0)
theorem calm_view {s0 sk : St} {o : Oper} (hr : RepH S w0 E s0.H s0.nx w) (hH : sk.H = s0.H) (hnx : sk.nx = s0.nx) (hdf : a.defers = []) (hv : ∀ i ∈ seesOf all o, RV E s0.H (sk.env i) (a.tmps.getD i undef)) :
    ∃ (Sv : Sc) (Ev : En), (∀ x, ¬ Sv.own x) ∧ Sv.m = s0.nx ∧ Sv.φ0 = E.φ ∧ (∀ e b, Sv.im0 e b = E.im (some e) b) ∧ (∀ i, Sv.sh0 i = shp (s0.H i)) ∧ Rep Sv w Ev (maskC all o sk) a w := by
  have hro : ∀ id o', roH s0.H id = some o' → ∃ o1, s0.H id = some o1 ∧ o' = o1.ro := fun id o' h => by
    unfold roH at h
    cases hh : s0.H id with
    | none => rw [hh] at h; cases h
    | some o1 => rw [hh] at h; cases h; exact ⟨o1, rfl, rfl⟩
  have hsh : ∀ i, shp (roH s0.H i) = shp (s0.H i) := fun i => by
    unfold roH
    cases hh : s0.H i with
    | none => rfl
    | some o1 => exact shp_ro o1
  obtain ⟨I, hI1, hI2⟩ := all_ex w E.im
  have hmore : ∀ esc b c, E.im esc b = some c → I esc b = some c := fun esc b c hc => by
    cases esc with
    | some e => rw [hI1]; exact hc
    | none => exact (hI2 b c).2 (hr.imOK _ _ _ hc)
  have hIok : ∀ esc b c, I esc b = some c → ∃ t fz, w.heap[b]? = some (.cells c t fz) := fun esc b c hc => by
    cases esc with
    | some e => rw [hI1] at hc; exact hr.imOK _ _ _ hc
    | none => exact (hI2 b c).1 hc
  have G : Goes some E s0.H ⟨s0.nx, E.φ, I⟩ (roH s0.H) := ⟨fun id i hn hi => by
    cases hi; exact ⟨by rw [← hr.nx_]; exact hn, rfl, .inr (hsh id)⟩, hmore⟩
  have hmH : (maskC all o sk).H = roH s0.H := by show roH sk.H = _; rw [hH]
  have hmn : (maskC all o sk).nx = s0.nx := hnx
  refine ⟨⟨fun _ => False, s0.nx, E.φ, fun e => E.im (some e), fun i => shp (s0.H i)⟩, ⟨s0.nx, E.φ, I⟩, fun x h => h, rfl, rfl, fun _ _ => rfl, fun _ => rfl, { keeps := ⟨rfl, rfl, rfl, Nat.le_refl _, fun _ _ _ => rfl⟩, obj := ?_, own := ?_, apart := ?_, imOK := hIok, imS := ?_, imSub := ?_, fresh := ?_, nx_ := by rw [hmn], mle := by rw [hmn]; exact Nat.le_refl _, pin := fun _ _ => rfl, im0 := fun e b _ => hI1 e b, shape := fun i _ => .inr (by rw [hmH]; exact hsh i), env := ?_, defers := hdf }⟩
  · intro id o' ho'
    rw [hmH] at ho' ⊢
    obtain ⟨o1, h2, rfl⟩ := hro id o' ho'
    obtain ⟨us, k1, k2⟩ := ObjOK_iff.1 (hr.obj id o1 h2)
    refine ObjOK_iff.2 ⟨us, by have := (cont_ro k1).ren G; rwa [JObj.ren_some] at this, ?_⟩
    rw [ro_rw]
    rcases k2 with k2 | k2
    · exact .inl k2
    · right
      unfold Blk at k2 ⊢
      rw [if_neg (by simp)]
      cases hrw : o1.rw with
      | true =>
        rw [hrw, if_pos rfl] at k2
        obtain ⟨c, t, lo, hi, q1, q2, q3, q4, q5⟩ := k2
        exact ⟨q4, c, (hI2 _ _).2 ⟨_, _, q1⟩, q5⟩
      | false =>
        rw [hrw, if_neg (by simp)] at k2
        obtain ⟨q1, c, q2, q3⟩ := k2
        exact ⟨q1, c, hmore _ _ _ q2, q3⟩
  · intro id o' ho' hrw
    rw [hmH] at ho'
    obtain ⟨o1, h2, rfl⟩ := hro id o' ho'
    rw [ro_rw] at hrw; cases hrw
  · intro i j' x y hx hy hrx
    rw [hmH] at hx
    obtain ⟨o1, h2, rfl⟩ := hro i x hx
    rw [ro_rw] at hrx; cases hrx
  · intro esc b' c hc
    obtain ⟨t, fz, hg⟩ := hIok _ _ _ hc
    exact .inl ⟨lt_of_get hg, fun h => h⟩
  · intro b' c hc
    exact hmore _ _ _ (hr.imSub b' c (by rw [← hI1]; exact hc))
  · intro id hid
    rw [hmn] at hid; rw [hmH]; unfold roH; rw [hr.fresh id hid]
  · intro i
    rw [hmH]
    show RV _ _ (cond (memB i (seesOf all o)) (sk.env i) .junk) _
    cases hm : memB i (seesOf all o) with
    | false => trivial
    | true =>
      have := RV_ren G (hv i (memB_iff.1 hm))
      rw [ren_some] at this; exact this
theorem calm_put {s0 : St} {Sv : Sc} {E' : En} {st' : St} (hr : RepH S w0 E s0.H s0.nx w) (s1 : ∀ x, ¬ Sv.own x) (s2 : Sv.m = s0.nx) (s3 : Sv.φ0 = E.φ) (s4 : ∀ e b, Sv.im0 e b = E.im (some e) b) (s5 : ∀ i, Sv.sh0 i = shp (s0.H i)) (hr' : RepH Sv w E' st'.H st'.nx w') :
    ∃ E3, RepH S w0 E3 s0.H s0.nx w' ∧ Goes some E s0.H E3 s0.H ∧ ∀ v u, RV E' st'.H v u → RV E3 s0.H (v.ren (backC s0.nx st'.H)) u := by
  obtain ⟨E3, e1, e2, _, e4, e5⟩ := en_ex2 w E E' 0 0 s0.nx
  have e2 : ∀ i, E3.φ i = E.φ i := fun i => e2 i (by omega)
  have hblk : ∀ b, b < w.heap.size → w'.heap[b]? = w.heap[b]? := fun b hb => hr'.keeps.block b hb (s1 b)
  have hlt : ∀ esc b c, E.im esc b = some c → b < w.heap.size := fun esc b c h => by obtain ⟨t, fz, hg⟩ := hr.imOK esc b c h; exact lt_of_get hg
  have G : Goes some E s0.H E3 s0.H := ⟨fun id i hn hi => by cases hi; exact ⟨by rw [e1, ← hr.nx_]; exact hn, e2 _, .inr rfl⟩, fun esc b c h => by rw [e4 esc b (hlt esc b c h)]; exact h⟩
  refine ⟨E3, ?_, G, fun v u hv => ?_⟩
  · refine { keeps := ?_, obj := ?_, own := ?_, apart := ?_, imOK := ?_, imS := ?_, imSub := ?_, fresh := hr.fresh, nx_ := e1, mle := hr.mle, pin := fun i hi => (e2 i).trans (hr.pin i hi), im0 := ?_, shape := hr.shape }
    · exact hr.keeps.same hr'.keeps.os hr'.keeps.tape hr'.keeps.output hr'.keeps.size fun k hk _ => hblk k (by have := hr.keeps.size; omega)
    · intro id o ho
      have := (hr.obj id o ho).go (w' := w') G (i := id) (e2 id) (fun hrw hp => ?_)
      · rwa [JObj.ren_some] at this
      · obtain ⟨us, _, hb⟩ := ObjOK_iff.1 (hr.obj id o ho)
        rcases hb with ⟨_, hb⟩ | hb
        · omega
        · unfold Blk at hb
          rw [if_pos hrw] at hb
          obtain ⟨c, t, lo, hi, hg, _⟩ := hb
          exact hblk _ (lt_of_get hg)
    · intro id o ho hrw hp
      rw [e2] at hp ⊢
      obtain ⟨h1, h2⟩ := hr.own id o ho hrw hp
      refine ⟨h1, fun esc => ?_⟩
      obtain ⟨us, _, hb⟩ := ObjOK_iff.1 (hr.obj id o ho)
      rcases hb with ⟨_, hb⟩ | hb
      · omega
      · unfold Blk at hb
        rw [if_pos hrw] at hb
        obtain ⟨c, t, lo, hi, hg, _⟩ := hb
        rw [e4 esc _ (lt_of_get hg)]; exact h2 esc
    · intro i j x y hx hy hrx hry hpx hpy he
      rw [e2] at hpx he; rw [e2] at hpy he
      exact hr.apart i j x y hx hy hrx hry hpx hpy he
    · intro esc b c hc
      rcases Nat.lt_or_ge b w.heap.size with h | h
      · rw [e4 esc b h] at hc; rw [hblk b h]; exact hr.imOK esc b c hc
      · rw [e5 esc b h] at hc; exact hr'.imOK esc b c hc
    · intro esc b c hc
      rcases Nat.lt_or_ge b w.heap.size with h | h
      · rw [e4 esc b h] at hc; exact hr.imS esc b c hc
      · right; have := hr.keeps.size; omega
    · intro b c hc
      rcases Nat.lt_or_ge b w.heap.size with h | h
      · rw [e4 _ b h] at hc ⊢; exact hr.imSub b c hc
      · rw [e5 _ b h] at hc ⊢; exact hr'.imSub b c hc
    · intro e b hb
      rw [e4 _ b (by have := hr.keeps.size; omega)]; exact hr.im0 e b hb
  · have hlv : Lvl E' (fun esc b => match esc with
        | some e => E'.im (some e) b
        | none => E3.im none b) := fun e b c h => h
    refine RV_ren (f := backC s0.nx st'.H) (E := E'.wim _) ⟨fun id i hn hi => ?_, fun esc b c hc => ?_⟩ (lvl_RV hlv hv)
    · unfold backC at hi
      cases hb : Nat.blt id s0.nx with
      | false => rw [hb] at hi; cases hi
      | true =>
        rw [hb] at hi
        obtain ⟨rfl, o, ho⟩ := lv_some hi
        rw [Nat.blt_eq] at hb
        refine ⟨by rw [e1]; exact hb, ?_, .inr ?_⟩
        · rw [e2]; show _ = E'.φ i; rw [hr'.pin i (by omega), s3]
        · rcases hr'.shape i (by omega) with h | h
          · rw [ho] at h; exact (shp_someC h).elim
          · rw [h, s5]
    · cases esc with
      | none => exact hc
      | some e =>
        have hc : E'.im (some e) b = some c := hc
        rcases Nat.lt_or_ge b w.heap.size with h | h
        · rw [e4 _ b h, ← s4, ← hr'.im0 e b h]; exact hc
        · rw [e5 _ b h]; exact hc
theorem calm_step {tr : Nat → St} (htr : ∀ k, k < all.length → StepC P C all k (tr k) (tr (k + 1))) {D : Nat → Bool} {k : Nat} (hA : AncOK all as) (hone : DstOne all) (hcalm : calmL P all as all 0 = true) (hD : ∀ j, D j = true → ∀ m ∈ nthL as j, D m = true) (hC : CallOK P C) (hops : ops.toList = all)
    (hdst : all.all (dstOk n) = true) (hrel : RelC P S w0 all tr n D a w) (hk : k < all.length) (hDk : D k = false) (hanc : ∀ m ∈ nthL as k, D m = true) :
    wpOp P ops Q k (RelC P S w0 all tr n (with_ D k)) a w := by
  obtain ⟨hdf, hn, E, p, hp, hst, hr, hv1, hv2⟩ := hrel
  obtain ⟨o, q1, q2⟩ := htr k hk
  have hcl := fun m o (h : all[m]? = some o) => by have := calm_class hcalm m o h; simp only [Nat.zero_add] at this; exact this
  have hd2 : ∀ (k : Nat) (o : Oper), all[k]? = some o → classO P o = 2 → o.dst = none := fun k o h h2 => ((hcl k o h).2.1 h2).1
  obtain ⟨g1, g2, g3⟩ := tr_same htr k (by omega)
  obtain ⟨p1, p2, p3⟩ := tr_same htr p hp
  have hsh : ∀ i, shp ((tr k).H i) = shp ((tr p).H i) := fun i => (g2 i).trans (p2 i).symm
  have ho : ops[k]? = some o := by rw [← Array.getElem?_toList, hops]; exact q1
  have hlen : ∀ {m : Nat} {o : Oper}, all[m]? = some o → m < all.length := fun h => (List.getElem?_eq_some_iff.1 h).1
  have hdo : ∀ d, o.dst = some d → d < a.tmps.size := fun d hd => by
    rw [hn]; exact dstOk_ok (List.all_eq_true.1 hdst o (List.mem_of_getElem? q1)) d hd
  have hput : ∀ x i, o.dst ≠ some i → (a.put o.dst x).tmps.getD i undef = a.tmps.getD i undef := fun x i hi => by
    cases hd : o.dst with
    | none => rfl
    | some d =>
      rw [hd] at hi
      show (a.tmps.setIfInBounds d x).getD i undef = _
      rw [Array.getD_eq_getD_getElem?, Array.getElem?_setIfInBounds_ne (fun e => hi (by rw [e])), ← Array.getD_eq_getD_getElem?]
  have hputd : ∀ x d, o.dst = some d → (a.put o.dst x).tmps.getD d undef = x := fun x d hd => by
    have hlt := hdo d hd
    rw [hd]
    show (a.tmps.setIfInBounds d x).getD d undef = _
    rw [Array.getD_eq_getD_getElem?, Array.getElem?_setIfInBounds_self_of_lt hlt]; rfl
  have hdef : ∀ x, (a.put o.dst x).defers = [] := fun x => by cases o.dst <;> exact hdf
  have hse : ∀ i, (∀ m o, k ≤ m → m < all.length → all[m]? = some o → o.dst ≠ some i) → (tr all.length).env i = (tr k).env i := fun i hi => by
    have := tr_env htr hd2 (all.length - k) k (by omega) i (fun m o h1 h2 => hi m o h1 (by omega))
    rwa [show k + (all.length - k) = all.length by omega] at this
  -- stores before and behind
  have hcmp : 1 ≤ classO P o → ∀ (j : Nat) (o' : Oper), all[j]? = some o' → classO P o' = 2 → j ≠ k → (D j = true ↔ j < k) := fun h1 j o' hj h2 hjk => by
    have hc := ((hcl j o' hj).2.1 h2).2
    have := cmp_at hc k o q1
    simp only [Nat.zero_add] at this
    rcases this with h3 | h3 | h3 | h3
    · exact (hjk h3.symm).elim
    · omega
    · constructor
      · intro hDj; have := hD j hDj k h3; rw [hDk] at this; cases this
      · intro hlt; have := hA.lt j k h3; omega
    · constructor
      · intro _; exact hA.lt k j h3
      · intro _; exact hanc j h3
  have hheap : 1 ≤ classO P o → (tr p).H = (tr k).H := fun h1 => by
    rcases Nat.lt_or_ge p k with h2 | h2
    · have := tr_heap htr (k - p) p (by omega) (fun m o' h3 h4 h5 h6 => by
        have h7 := (hcmp h1 m o' h5 h6 (by omega)).2 (by omega)
        have := (hst m o' h5 h6).1 h7; omega)
      rw [show p + (k - p) = k by omega] at this; exact this.symm
    · have := tr_heap htr (p - k) k (by omega) (fun m o' h3 h4 h5 h6 => by
        have h7 := (hst m o' h5 h6).2 (by omega)
        rcases Nat.eq_or_lt_of_le h3 with h8 | h8
        · subst h8; rw [hDk] at h7; cases h7
        · have := (hcmp h1 m o' h5 h6 (by omega)).1 h7; omega)
      rw [show k + (p - k) = p by omega] at this; exact this
  -- what the operation reads
  have hsee : ∀ i ∈ seesOf all o, RV E (tr p).H ((tr k).env i) (a.tmps.getD i undef) := fun i hi => by
    have hs := slot_at ((hcl k o q1).2.2 i hi)
    simp only [Nat.zero_add] at hs
    rcases Classical.em (∃ (m : Nat) (o' : Oper), all[m]? = some o' ∧ o'.dst = some i) with ⟨m, o', hm, hd⟩ | hno
    · rcases hs m o' hm hd with ⟨h1, h2⟩ | ⟨h1, h2⟩
      · have := hv2 m o' i hm hd (hanc m h2)
        rwa [hse i fun m' o'' h3 _ h5 h6 => by have := hone m m' o' o'' i hm h5 hd h6; omega] at this
      · have hDm : D m = false := by
          cases hh : D m with
          | false => rfl
          | true => have := hD m hh k h2; rw [hDk] at this; cases this
        rw [g3 i fun m' o'' h3 h5 h6 => by have := hone m m' o' o'' i hm h5 hd h6; omega]
        exact hv1 i fun m' o'' h5 h6 => by have := hone m m' o' o'' i hm h5 hd h6; subst this; exact hDm
    · rw [g3 i fun m' o'' h3 h5 h6 => hno ⟨m', o'', h5, h6⟩]
      exact hv1 i fun m' o'' h5 h6 => (hno ⟨m', o'', h5, h6⟩).elim
  obtain ⟨Sv, Ev, s1, s2, s3, s4, s5, hR⟩ := calm_view (all := all) (o := o) (s0 := ⟨(tr p).env, (tr p).H, (tr 0).nx⟩) (sk := ⟨(tr k).env, (tr p).H, (tr 0).nx⟩) hr rfl rfl hdf hsee
  -- what was known stays known
  have after : ∀ {E3 : En} {x : Value} {H' : Nat → Option JObj}, (∀ v u, RV E (tr p).H v u → RV E3 H' v u) → (∀ d, o.dst = some d → RV E3 H' ((tr all.length).env d) x) →
      (∀ i, (∀ (m : Nat) (o : Oper), all[m]? = some o → o.dst = some i → with_ D k m = false) → RV E3 H' ((tr 0).env i) ((a.put o.dst x).tmps.getD i undef)) ∧
      ∀ (m : Nat) (o' : Oper) (i : Nat), all[m]? = some o' → o'.dst = some i → with_ D k m = true → RV E3 H' ((tr all.length).env i) ((a.put o.dst x).tmps.getD i undef) := fun {E3 x H'} hgo hx => by
    constructor
    · intro i hi
      have hne : o.dst ≠ some i := fun e => (with_false (hi k o q1 e)).2 rfl
      rw [hput _ i hne]
      exact hgo _ _ (hv1 i fun m o' hm hd => (with_false (hi m o' hm hd)).1)
    · intro m o' i hm hd hw
      by_cases hmk : m = k
      · subst hmk
        rw [q1] at hm; cases hm
        rw [hputd _ i hd]; exact hx i hd
      · have hne : o.dst ≠ some i := fun e => hmk (hone m k o' o i hm q1 hd e)
        rw [hput _ i hne]
        exact hgo _ _ (hv2 m o' i hm hd ((with_iff.1 hw).resolve_right hmk))
  have hlast : ∀ d, o.dst = some d → (tr all.length).env d = (tr (k + 1)).env d := fun d hd => by
    have := tr_env htr hd2 (all.length - (k + 1)) (k + 1) (by omega) d (fun m o' h1 h2 h3 h4 => by have := hone k m o o' d q1 h3 hd h4; omega)
    rwa [show k + 1 + (all.length - (k + 1)) = all.length by omega] at this
  have keepP : classO P o ≠ 2 → ∀ (j : Nat) (o' : Oper), all[j]? = some o' → classO P o' = 2 → (with_ D k j = true ↔ j < p) := fun h1 j o' hj h2 => by
    have hjk : j ≠ k := fun e => by subst e; rw [q1] at hj; cases hj; exact h1 h2
    rw [with_iff, hst j o' hj h2]
    constructor
    · rintro (h | h)
      · exact h
      · exact (hjk h).elim
    · exact .inl
  have nextP : classO P o = 2 → ∀ (j : Nat) (o' : Oper), all[j]? = some o' → classO P o' = 2 → (with_ D k j = true ↔ j < k + 1) := fun h1 j o' hj h2 => by
    rw [with_iff]
    by_cases hjk : j = k
    · subst hjk; exact ⟨fun _ => Nat.lt_succ_self _, fun _ => .inr rfl⟩
    · rw [hcmp (by omega) j o' hj h2 hjk]
      constructor
      · rintro (h | h)
        · omega
        · exact (hjk h).elim
      · intro h; exact .inl (by omega)
  unfold wpOp
  rw [ho]
  simp only []
  rcases q2 with ⟨hc1, hg, v, st', hval, hnext⟩ | ⟨hg, hnext⟩ | ⟨t, ja, jv, st', h2, he, hg, hval, hnext⟩
  · -- it tells a value
    have hval2 : ∃ st2, opJ P C o.op o.type (maskC all o ⟨(tr k).env, (tr p).H, (tr 0).nx⟩) pk = some (v, st2) ∧ backC (tr 0).nx st2.H = backC (tr k).nx st'.H := by
      rcases Nat.lt_or_ge (classO P o) 1 with h0 | h1
      · obtain ⟨e1, e2⟩ := free_same (by omega) hval
        have := e2 (roH (tr p).H) (shp_ro_eq fun i => (hsh i).symm)
        refine ⟨_, (by rw [show maskC all o ⟨(tr k).env, (tr p).H, (tr 0).nx⟩ = ⟨(maskC all o (tr k)).env, roH (tr p).H, (maskC all o (tr k)).nx⟩ from by rw [show (maskC all o (tr k)).nx = (tr 0).nx from g1]; rfl]; exact this), ?_⟩
        rw [e1, g1]
        funext i
        unfold backC
        rw [show lvJ (⟨(maskC all o (tr k)).env, roH (tr p).H, (maskC all o (tr k)).nx⟩ : St).H = lvJ (maskC all o (tr k)).H from lv_eq (shp_ro_eq fun i => (hsh i).symm)]
      · refine ⟨st', ?_, by rw [g1]⟩
        rw [hheap h1, ← g1]; exact hval
    obtain ⟨st2, hval2, hback⟩ := hval2
    rw [if_pos (guard_want hops hR (hg.heap.mask))]
    left
    refine (opJ_ok hC hR hval2).upon fun x w' hout => ?_
    obtain ⟨E', jv, st1, k1, k2, k3, k4⟩ := hout
    unfold pk at k1
    cases k1
    obtain ⟨E3, r1, r2, r3⟩ := calm_put (s0 := ⟨(tr p).env, (tr p).H, (tr 0).nx⟩) hr s1 s2 s3 s4 s5 k4.toRepH
    obtain ⟨x1, x2⟩ := after (E3 := E3) (x := x) (H' := (tr p).H) (fun v u h => by have := RV_ren r2 h; rwa [ren_some] at this) (fun d hd' => by
      rw [hlast d hd', hnext, hd', set_env_at, ← hback]; exact r3 _ _ k3)
    exact ⟨hdef _, by rw [put_size]; exact hn, E3, p, hp, keepP (by omega), r1, x1, x2⟩
  · -- it isn't wanted
    rw [if_neg (by rw [guard_want hops hR (hg.heap.mask)]; simp)]
    have hx : ∀ d, o.dst = some d → RV E (tr p).H ((tr all.length).env d) undef := fun d hd => by
      rw [hlast d hd, hnext, hd, set_env_at]; exact ⟨_, rfl, rfl⟩
    obtain ⟨x1, x2⟩ := after (E3 := E) (x := undef) (H' := (tr p).H) (fun _ _ h => h) hx
    by_cases h2 : classO P o = 2
    · have hH : (tr (k + 1)).H = (tr p).H := by rw [hnext, set_H, hheap (by omega)]
      exact ⟨hdef _, by rw [put_size]; exact hn, E, k + 1, by omega, nextP h2, by rw [hH]; exact hr, by rw [hH]; exact x1, by rw [hH]; exact x2⟩
    · exact ⟨hdef _, by rw [put_size]; exact hn, E, p, hp, keepP h2, hr, x1, x2⟩
  · -- it stores
    have hH := hheap (by omega)
    rw [if_pos (guard_want hops hR (hg.heap.mask))]
    left
    have hRw : Rep S w0 E (maskE all o (tr k)) a w := by
      have e1 : (maskE all o (tr k)).H = (tr p).H := hH.symm
      have e2 : (maskE all o (tr k)).nx = (tr 0).nx := g1
      refine { (show RepH S w0 E (maskE all o (tr k)).H (maskE all o (tr k)).nx w by rw [e1, e2]; exact hr) with env := fun i => ?_, defers := hdf }
      rw [e1]
      show RV _ _ (cond (memB i (seesOf all o)) ((tr k).env i) .junk) _
      cases hm : memB i (seesOf all o) with
      | false => trivial
      | true => exact hsee i (memB_iff.1 hm)
    obtain ⟨w', hrun, st2, k1, k2, k3, k4, k5⟩ := store1J_ok hRw (opnd_ok hRw ja) (opnd_ok hRw jv) hval
    unfold pk at k1
    cases k1
    have hland : Lands P (fun x w'' => x = undef ∧ w'' = w') ((execOp a.eval o).run P w) := by
      simp only [execOp, he]
      rw [Sem.run_bind, hrun]; exact ⟨rfl, rfl⟩
    refine hland.upon fun x w'' hx => ?_
    obtain ⟨rfl, rfl⟩ := hx
    have hH2 : (tr (k + 1)).H = st'.H := by rw [hnext]
    have hsame : ∀ i, shp (st'.H i) = shp ((tr p).H i) := fun i => by rw [k4 i, hH]; rfl
    obtain ⟨x1, x2⟩ := after (E3 := E) (x := undef) (H' := st'.H) (fun _ _ h => RV_shp hsame h) (fun d hd => by rw [hd2 k o q1 h2] at hd; cases hd)
    refine ⟨hdef _, by rw [put_size]; exact hn, E, k + 1, by omega, nextP h2, ?_, by rw [hH2]; exact x1, by rw [hH2]; exact x2⟩
    rw [hH2]
    have e3 : st'.nx = (tr 0).nx := k3.trans g1
    rw [← e3]; exact k5.toRepH
theorem rep_not {m : Nat} (j : Nat) (h : (Array.replicate m false).getD j false = true) : False := by rw [rep_false] at h; cases h
theorem calm_core (hN : CallNat C0 C) (hC : CallOK P C) (hdst : ops.toList.all (dstOk n) = true)
    (hQ : ∀ E' st' a' w', K st' = some r → Rep S w0 E' st' a' w' → a'.tmps.size = n → Q .normal a' w') (hcalm : calmB P ops.toList = true) (hJ : calmJ P C0 ops.toList ops.toList st K = some r) (hR : Rep S w0 E st a w) (hn : a.tmps.size = n) : wpAny P .any ops Q ops.size (Array.replicate ops.size false) a { w with drawn := w.drawn + 1 } := by
  unfold calmB at hcalm
  split at hcalm
  · rename_i as has
    rw [Bool.and_eq_true] at hcalm
    obtain ⟨hA, hAl⟩ := ancs_ok (ops := ops.toList) has (anc_nil _) (by simp)
    have hone := dst_one (nodupB_iff hcalm.1)
    obtain ⟨tr, t0, htr, hK⟩ := calm_run (P := P) (all := ops.toList) hN ops.toList 0 st (by simp) (fun k o h => (calm_class hcalm.2 k o h).1) hJ
    rw [Nat.zero_add] at hK htr
    have htr : ∀ k, k < ops.toList.length → StepC P C ops.toList k (tr k) (tr (k + 1)) := fun k hk => htr k (Nat.zero_le _) hk
    have hsz : ops.toList.length = ops.size := by simp
    have conv : ∀ {listed : Array Bool} {k : Nat}, listed.size = ops.size → k < ops.size → listed.getD k true = listed.getD k false := fun {listed k} hs hk => by
      simp [show k < listed.size from by omega]
    have noready : ∀ (listed : Array Bool), listed.size = ops.size → Region.ready .any ops listed = [] → ∀ k, k < ops.size → listed.getD k false = true := by
      intro listed hs hr k
      induction k using Nat.strongRecOn with
      | ind k ih =>
        intro hk
        cases hl : listed.getD k false with
        | true => rfl
        | false =>
          have hm : k ∈ Region.ready .any ops listed := by
            refine mem_ready.2 ⟨by rw [conv hs hk]; exact hl, ops[k], by simp [hk], fun e he hb => ?_⟩
            have ho : ops.toList[k]? = some ops[k] := by simp [hk]
            have hed : e.on ∈ edgesOf ops[k] := by
              unfold edgesOf
              refine List.mem_filterMap.2 ⟨e, by simpa using he, by rw [hb]; rfl⟩
            have hlt := hA.lt k e.on (hA.edge k _ ho (by omega) e.on hed)
            exact ih e.on hlt (by omega)
          rw [hr] at hm; cases hm
    have done : ∀ (listed : Array Bool) (a : Act) (w : World), RelC P S w0 ops.toList tr n (fun k => listed.getD k false) a w → (∀ k, k < ops.size → listed.getD k false = true) → Q .normal a w := by
      rintro listed a w ⟨hdf, hn, E, p, hp, hst, hr, hv1, hv2⟩ hall
      obtain ⟨g1, g2, g3⟩ := tr_same htr ops.toList.length (Nat.le_refl _)
      have hpe : (tr ops.toList.length).H = (tr p).H := by
        have := tr_heap htr (ops.toList.length - p) p (by omega) (fun m o h3 h4 h5 h6 => by
          have := (hst m o h5 h6).1 (hall m (by omega)); omega)
        rwa [show p + (ops.toList.length - p) = ops.toList.length by omega] at this
      refine hQ E (tr ops.toList.length) a w hK { (show RepH S w0 E (tr ops.toList.length).H (tr ops.toList.length).nx w by rw [g1, hpe]; exact hr) with env := fun i => ?_, defers := hdf } hn
      rw [hpe]
      rcases Classical.em (∃ (m : Nat) (o' : Oper), ops.toList[m]? = some o' ∧ o'.dst = some i) with ⟨m, o', hm, hd⟩ | hno
      · exact hv2 m o' i hm hd (hall m (by have := (List.getElem?_eq_some_iff.1 hm).1; omega))
      · rw [g3 i fun m' o'' h3 h5 h6 => hno ⟨m', o'', h5, h6⟩]
        exact hv1 i fun m' o'' h5 h6 => (hno ⟨m', o'', h5, h6⟩).elim
    have run : ∀ (fuel : Nat) (listed : Array Bool) (a : Act) (w : World), unl listed ops.size ≤ fuel → listed.size = ops.size → (∀ k o, ops.toList[k]? = some o → listed.getD k false = true → ∀ m ∈ edgesOf o, listed.getD m false = true) →
        RelC P S w0 ops.toList tr n (fun k => listed.getD k false) a w → wpAny P .any ops Q fuel listed a w := by
      intro fuel
      induction fuel with
      | zero =>
        intro listed a w hf hs hcl hI
        have hall : ∀ k, k < ops.size → listed.getD k false = true := fun k hk => by rw [← conv hs hk]; exact unl_none (Nat.le_zero.1 hf) k hk
        refine ⟨?_, done listed a w hI hall⟩
        cases hr : Region.ready .any ops listed with
        | nil => rfl
        | cons j l =>
          have hm : j ∈ Region.ready .any ops listed := by rw [hr]; simp
          obtain ⟨h1, o, h2, _⟩ := mem_ready.1 hm
          have hj : j < ops.size := (Array.getElem?_eq_some_iff.1 h2).1
          rw [conv hs hj, hall j hj] at h1; cases h1
      | succ fuel ih =>
        intro listed a w hf hs hcl0 hI
        refine ⟨fun hr => done listed a w hI (noready listed hs hr), fun j hj => ?_⟩
        obtain ⟨h1, o, h2, h3⟩ := mem_ready.1 hj
        have hjs : j < ops.size := (Array.getElem?_eq_some_iff.1 h2).1
        have ho : ops.toList[j]? = some o := by rw [Array.getElem?_toList]; exact h2
        have hDj : listed.getD j false = false := by rw [← conv hs hjs]; exact h1
        have hed : ∀ m ∈ edgesOf o, listed.getD m false = true := fun m hm => by
          unfold edgesOf at hm
          obtain ⟨e, he, heq⟩ := List.mem_filterMap.1 hm
          cases hb : Region.binds .any e with
          | false => rw [hb] at heq; cases heq
          | true => rw [hb] at heq; cases heq; exact h3 e (by simpa using he) hb
        have hfuel : unl (listed.setIfInBounds j true) ops.size ≤ fuel := by
          have := unl_set h1 ops.size
          rw [if_pos hjs] at this; omega
        have hset : ∀ m, (listed.setIfInBounds j true).getD m false = with_ (fun k => listed.getD k false) j m := fun m => by
          by_cases hm : j = m
          · subst hm
            rw [with_iff.2 (.inr rfl)]; simp [show j < listed.size from by omega]
          · rw [getD_set_ne false hm]
            cases hw : listed.getD m false with
            | true => exact (with_iff.2 (.inl hw)).symm
            | false =>
              cases hww : with_ (fun k => listed.getD k false) j m with
              | false => rfl
              | true => rcases with_iff.1 hww with h | h
                        · have h : listed.getD m false = true := h
                          rw [hw] at h; cases h
                        · exact (hm h.symm).elim
        have hcl := hA.closed (D := fun k => listed.getD k false = true) hAl (fun k o' ho' hk m hm => hcl0 k o' ho' hk m hm)
        have hanc : ∀ m ∈ nthL as j, listed.getD m false = true := fun m hm => by
          rcases hA.from_ j o ho (by omega) m hm with h4 | ⟨k, h4, h5⟩
          · exact hed m h4
          · exact hcl k (hed k h4) m h5
        have hedges : ∀ k o', ops.toList[k]? = some o' → (listed.setIfInBounds j true).getD k false = true → ∀ m ∈ edgesOf o', (listed.setIfInBounds j true).getD m false = true := fun k o' ho' hk m hm => by
          rw [hset] at hk ⊢
          rcases with_iff.1 hk with hk | rfl
          · exact with_iff.2 (.inl (hcl0 k o' ho' hk m hm))
          · rw [ho] at ho'; cases ho'; exact with_iff.2 (.inl (hed m hm))
        refine wpOp_mono (fun a' w' hrel => ih _ a' w' hfuel (by simp [hs]) hedges ?_) (calm_step htr hA hone hcalm.2 (fun k hk m hm => hcl k hk m hm) hC rfl hdst hI (by omega) hDj hanc)
        rw [show (fun k => (listed.setIfInBounds j true).getD k false) = with_ (fun k => listed.getD k false) j from funext hset]; exact hrel
    have hR' : RepH S w0 E st.H st.nx { w with drawn := w.drawn + 1 } := hR.toRepH.heap (w' := { w with drawn := w.drawn + 1 }) rfl rfl rfl rfl
    refine (run _ _ _ _ ?_ (by simp) (fun k o _ hk => by rw [rep_false] at hk; cases hk) ⟨hR.defers, hn, E, 0, Nat.zero_le _, fun j o _ _ => ⟨fun h => (rep_not j h).elim, fun h => (Nat.not_lt_zero _ h).elim⟩, by rw [t0]; exact hR', fun i _ => by rw [t0]; exact hR.env i, fun m o i _ _ hD => ?_⟩)
    · have : ∀ m, unl (Array.replicate ops.size false) m ≤ m := fun m => by
        induction m with
        | zero => exact Nat.le_refl _
        | succ m ih => unfold unl; split <;> omega
      exact this _
    · have hD : (Array.replicate ops.size false).getD m false = true := hD
      rw [rep_false] at hD; cases hD
  · cases hcalm
theorem calm_ok (hN : CallNat C0 C) (hC : CallOK P C) (hm : P.follows .mixedOrders = true) {id : Nat} (hdst : ops.toList.all (dstOk n) = true)
    (hQ : ∀ E' st' a' w', K st' = some r → Rep S w0 E' st' a' w' → a'.tmps.size = n → Q .normal a' w') (hcalm : calmB P ops.toList = true) (hJ : calmJ P C0 ops.toList ops.toList st K = some r) (hR : Rep S w0 E st a w) (hn : a.tmps.size = n) : (Code.region id ops true).wp P Q a w :=
  wp_region_any hm (calm_core hN hC hdst hQ hcalm hJ hR hn)
end Go.Eng

namespace Go.Eng
variable {R : Type} {P : Program} {S : Sc} {w0 w w' : World} {E : En} {st : St} {a : Act} {r : R} {H : Nat → Option JObj} {nx : Nat}
def tightS (E : En) (H : Nat → Option JObj) (nx : Nat) : Sc :=
  ⟨fun x => ∃ id o, H id = some o ∧ o.rw = true ∧ 0 < (E.φ id).room ∧ (E.φ id).blk = x, nx, E.φ, fun e => E.im (some e), fun i => shp (H i)⟩
theorem RepH.tight (h : RepH S w0 E H nx w) : RepH (tightS E H nx) w E H nx w where
  keeps := ⟨rfl, rfl, rfl, Nat.le_refl _, fun _ _ _ => rfl⟩
  obj := h.obj
  own id o hi hr hp := ⟨.inl ⟨id, o, hi, hr, hp, rfl⟩, (h.own id o hi hr hp).2⟩
  apart := h.apart
  imOK := h.imOK
  imS esc b c hc := by
    obtain ⟨t, fz, hg⟩ := h.imOK esc b c hc
    refine .inl ⟨lt_of_get hg, fun hb => ?_⟩
    obtain ⟨id, o, hi, hr, hp, rfl⟩ := hb
    rw [(h.own id o hi hr hp).2 esc] at hc; cases hc
  imSub := h.imSub
  fresh := h.fresh
  nx_ := h.nx_
  mle := Nat.le_refl _
  pin _ _ := rfl
  im0 _ _ _ := rfl
  shape _ _ := .inr rfl
noncomputable def keepIm (E : En) (H : Nat → Option JObj) (esc : Option Bool) (b : Nat) : Option (Array Value) :=
  @ite _ (esc = none → ∃ id o, H id = some o ∧ o.rw = false ∧ 0 < (E.φ id).room ∧ (E.φ id).blk = b) (Classical.propDecidable _) (E.im esc b) none
theorem keepIm_le {esc : Option Bool} {b : Nat} {c : Array Value} (h : keepIm E H esc b = some c) : E.im esc b = some c := by
  unfold keepIm at h
  split at h
  · exact h
  · cases h
theorem keepIm_some (e : Bool) (b : Nat) : keepIm E H (some e) b = E.im (some e) b := by
  unfold keepIm; rw [if_pos (fun h => by cases h)]
theorem keepIm_lvl : Lvl E (keepIm E H) := fun _ _ _ h => by rw [keepIm_some]; exact h
theorem keepIm_ro {id : Nat} {o : JObj} (h1 : H id = some o) (h2 : o.rw = false) (h3 : 0 < (E.φ id).room) : keepIm E H none (E.φ id).blk = E.im none (E.φ id).blk := by
  unfold keepIm; rw [if_pos (fun _ => ⟨id, o, h1, h2, h3, rfl⟩)]
theorem keepIm_inv {b : Nat} {c : Array Value} (h : keepIm E H none b = some c) : ∃ id o, H id = some o ∧ o.rw = false ∧ 0 < (E.φ id).room ∧ (E.φ id).blk = b := by
  unfold keepIm at h
  split at h
  · rename_i hh; exact hh rfl
  · cases h
theorem keepIm_none {b : Nat} (hb : ∀ id o, H id = some o → o.rw = false → 0 < (E.φ id).room → (E.φ id).blk ≠ b) : keepIm E H none b = none := by
  cases h : keepIm E H none b with
  | none => rfl
  | some c => obtain ⟨id, o, h1, h2, h3, h4⟩ := keepIm_inv h; exact (hb id o h1 h2 h3 h4).elim
theorem keepIm_keep : keepIm (E.wim (keepIm E H)) H = keepIm E H := by
  funext esc b
  cases esc with
  | some e => rw [keepIm_some]; rfl
  | none =>
    cases h : keepIm E H none b with
    | some c =>
      obtain ⟨id, o, h1, h2, h3, h4⟩ := keepIm_inv h
      have := keepIm_ro (E := E.wim (keepIm E H)) h1 h2 h3
      have e : ((E.wim (keepIm E H)).φ id).blk = b := h4
      rw [e] at this; rw [this]; exact h
    | none =>
      cases h' : keepIm (E.wim (keepIm E H)) H none b with
      | none => rfl
      | some c => have := keepIm_le h'; have this : keepIm E H none b = some c := this; rw [h] at this; cases this
def tightM (E : En) (H : Nat → Option JObj) (nx m : Nat) : Sc := { tightS E H nx with m := m }
theorem RepH.untightM {E0 : En} {H0 : Nat → Option JObj} {nx0 m' : Nat} (h : RepH S w0 E0 H0 nx0 w) (hm : S.m ≤ m') (k : RepH (tightM E0 H0 nx0 m') w E H nx w') (hro : ∀ id o, H id = some o → o.rw = false → id < m') :
    RepH S w0 (E.wim (keepIm E H)) H nx w' ∧ (∀ id o, H id = some o → o.rw = false → 0 < (E.φ id).room → ∃ c, E0.im none (E.φ id).blk = some c) := by
  have hX : ∀ x, tightS E0 H0 nx0 x → S x ∨ w0.heap.size ≤ x := by
    rintro x ⟨id, o, hi, hr, hp, rfl⟩
    exact (h.own id o hi hr hp).1
  have hold : ∀ id o, H id = some o → o.rw = false → 0 < (E.φ id).room → ∃ c, E0.im none (E.φ id).blk = some c := fun id o hi hr hp => by
    have hlt := hro id o hi hr
    have hpin : E.φ id = E0.φ id := k.pin id hlt
    rw [hpin] at hp ⊢
    obtain ⟨us, k1, k2⟩ := ObjOK_iff.1 (k.obj id o hi)
    rw [hpin] at k2
    rcases k2 with ⟨_, k2⟩ | k2
    · omega
    unfold Blk at k2
    rw [hr, if_neg (by simp)] at k2
    obtain ⟨_, c, hc, _⟩ := k2
    cases h0 : H0 id with
    | none =>
      rcases k.shape id hlt with h1 | h1
      · rw [hi] at h1; cases o <;> cases h1
      · have h1 : shp (H id) = shp (H0 id) := h1
        rw [hi, h0] at h1; cases o <;> cases h1
    | some o0 =>
      obtain ⟨us0, j1, j2⟩ := ObjOK_iff.1 (h.obj id o0 h0)
      rcases j2 with ⟨_, j2⟩ | j2
      · omega
      unfold Blk at j2
      cases hr0 : o0.rw with
      | false =>
        rw [hr0, if_neg (by simp)] at j2
        obtain ⟨_, c0, hc0, _⟩ := j2
        exact ⟨c0, hc0⟩
      | true =>
        rw [hr0, if_pos rfl] at j2
        obtain ⟨c0, t, lo, hi0, hg, _⟩ := j2
        rcases k.imS none _ _ hc with ⟨_, h2⟩ | h2
        · exact (h2 ⟨id, o0, h0, hr0, hp, rfl⟩).elim
        · have := lt_of_get hg
          exact absurd h2 (by omega)
  refine ⟨{ keeps := ?_, obj := ?_, own := ?_, apart := k.apart, imOK := fun esc b c hc => k.imOK esc b c (keepIm_le hc), imS := ?_, imSub := fun b c hc => (keepIm_some false b).trans (k.imSub b c ((keepIm_some true b).symm.trans hc)), fresh := k.fresh, nx_ := k.nx_, mle := Nat.le_trans hm k.mle, pin := ?_, im0 := ?_, shape := ?_ }, hold⟩
  · refine ⟨k.keeps.os.trans h.keeps.os, k.keeps.tape.trans h.keeps.tape, k.keeps.output.trans h.keeps.output, Nat.le_trans h.keeps.size k.keeps.size, fun b hb hn => ?_⟩
    rw [k.keeps.block b (Nat.lt_of_lt_of_le hb h.keeps.size) fun hx => by
      rcases hX b hx with h1 | h1
      · exact hn h1
      · omega]
    exact h.keeps.block b hb hn
  · intro id o hi
    obtain ⟨us, k1, k2⟩ := ObjOK_iff.1 (k.obj id o hi)
    refine ObjOK_iff.2 ⟨us, lvl_Cont keepIm_lvl k1, ?_⟩
    rcases k2 with k2 | k2
    · exact .inl k2
    · rcases Nat.eq_zero_or_pos (E.φ id).room with h0 | h0
      · left
        refine ⟨?_, h0⟩
        have : us.length ≤ (E.φ id).room := by
          unfold Blk at k2; split at k2
          · obtain ⟨_, _, _, _, _, _, _, h, _⟩ := k2; exact h
          · exact k2.1
        exact List.length_eq_zero_iff.1 (by omega)
      · right
        unfold Blk at k2 ⊢
        cases hr : o.rw with
        | true => rw [hr, if_pos rfl] at k2; rw [if_pos rfl]; exact k2
        | false =>
          rw [hr, if_neg (by simp)] at k2; rw [if_neg (by simp)]
          obtain ⟨k3, c, k4, k5⟩ := k2
          refine ⟨k3, c, ?_, k5⟩
          show keepIm E H none (E.φ id).blk = some c
          rw [keepIm_ro hi hr h0]; exact k4
  · intro id o hi hr hp
    obtain ⟨q1, q2⟩ := k.own id o hi hr hp
    refine ⟨?_, fun esc => ?_⟩
    · rcases q1 with q1 | q1
      · exact hX _ q1
      · exact .inr (Nat.le_trans h.keeps.size q1)
    · cases hc : (E.wim (keepIm E H)).im esc (E.φ id).blk with
      | none => exact hc
      | some c =>
        have := keepIm_le (show keepIm E H esc (E.φ id).blk = some c from hc)
        rw [q2 esc] at this; cases this
  · intro esc b c hc
    have hc : keepIm E H esc b = some c := hc
    rcases Nat.lt_or_ge b w.heap.size with hb | hb
    · have : ∃ e' c', E0.im e' b = some c' := by
        cases esc with
        | some e =>
          have h1 := keepIm_le hc
          rw [k.im0 e b hb] at h1
          exact ⟨_, _, h1⟩
        | none =>
          obtain ⟨id, o, h1, h2, h3, rfl⟩ := keepIm_inv hc
          exact ⟨none, hold id o h1 h2 h3⟩
      obtain ⟨e', c', h1⟩ := this
      exact h.imS e' b c' h1
    · exact .inr (Nat.le_trans h.keeps.size hb)
  · intro i hi
    exact (k.pin i (Nat.lt_of_lt_of_le hi hm)).trans (h.pin i hi)
  · intro e b hb
    show keepIm E H (some e) b = _
    rw [keepIm_some]
    exact (k.im0 e b (Nat.lt_of_lt_of_le hb h.keeps.size)).trans (h.im0 e b hb)
  · intro i hi
    rcases k.shape i (Nat.lt_of_lt_of_le hi hm) with h1 | h1
    · exact .inl h1
    · have h1 : shp (H i) = shp (H0 i) := h1
      rw [h1]; exact h.shape i hi
theorem RepH.untight {E0 : En} {H0 : Nat → Option JObj} {nx0 : Nat} (h : RepH S w0 E0 H0 nx0 w) (k : RepH (tightS E0 H0 nx0) w E H nx w') (hro : ∀ id o, H id = some o → o.rw = false → id < nx0) :
    RepH S w0 (E.wim (keepIm E H)) H nx w' ∧ (∀ id o, H id = some o → o.rw = false → 0 < (E.φ id).room → ∃ c, E0.im none (E.φ id).blk = some c) := h.untightM h.mle k hro
theorem RepH.tightM (h : RepH S w0 E H nx w) {m' : Nat} (hm : m' ≤ nx) : RepH (tightM E H nx m') w E H nx w :=
  { keeps := ⟨rfl, rfl, rfl, Nat.le_refl _, fun _ _ _ => rfl⟩, obj := h.obj, own := h.tight.own, apart := h.apart, imOK := h.imOK, imS := h.tight.imS, imSub := h.imSub, fresh := h.fresh, nx_ := h.nx_, mle := hm, pin := fun _ _ => rfl, im0 := fun _ _ _ => rfl, shape := fun _ _ => .inr rfl }
theorem RepH.grow (h : RepH S w0 E H nx w) (b : Obj) : RepH S w0 E H nx (w.alloc b) where
  keeps := h.keeps.same rfl rfl rfl (by simp) fun k hk _ => Go.RowKit.Below.heap_alloc _ _ _ (Nat.lt_of_lt_of_le hk h.keeps.size)
  obj id o hi := by
    have := (h.obj id o hi).go (w' := w.alloc b) (f := some) (E' := E) (H' := H) ⟨fun id i hn e => by cases e; exact ⟨hn, rfl, .inr rfl⟩, fun _ _ _ h => h⟩ (i := id) rfl (fun hr hp => by
      obtain ⟨us, _, hb⟩ := ObjOK_iff.1 (h.obj id o hi)
      rcases hb with ⟨_, h0⟩ | hb
      · omega
      · unfold Blk at hb; rw [if_pos hr] at hb
        obtain ⟨_, _, _, _, hg, _⟩ := hb
        exact Go.RowKit.Below.heap_alloc _ _ _ (lt_of_get hg))
    rwa [JObj.ren_some] at this
  own := h.own
  apart := h.apart
  imOK esc b' c hc := by
    obtain ⟨t, fz, hg⟩ := h.imOK esc b' c hc
    exact ⟨t, fz, by rw [Go.RowKit.Below.heap_alloc _ _ _ (lt_of_get hg)]; exact hg⟩
  imS := h.imS
  imSub := h.imSub
  fresh := h.fresh
  nx_ := h.nx_
  mle := h.mle
  pin := h.pin
  im0 := h.im0
  shape := h.shape
end Go.Eng

