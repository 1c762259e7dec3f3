/- The engine, part 3: a second reading of the code over values and lists, and that it is right. No condition. -/
import Derived.Test.YtinjfnjhhdjklaaE2
import Derived.Scope
import Derived.Test.YtinjfnjhhdjklaaE1
import Derived.Below
import Derived.Handed
import Derived.ChangeMaps5
import Derived.Carry
set_option linter.unusedVariables false
set_option linter.unusedSimpArgs false
namespace Go.Eng
variable {R : Type} {P : Program} {S : Sc} {w0 w w' : World} {E : En} {st : St} {a : Act} {r : R} {H : Nat → Option JObj} {nx : Nat}
variable {C : CallJ PK} {all : List Oper} {as : List (List Nat)} {n : Nat} {ops : Array Oper} {Q : Exit → Act → World → Prop} {K : St → Option R} {C0 : CallJ R}
theorem freeze (h : RepH S w0 E H nx w) (hS : ∀ x, ¬ S x) {id : Nat} {e : EK} {l : List e.T} (hw : 1 ≤ e.w) (ho : H id = some (.row e l true)) {u : Value} (hv : RV E H (.full id) u) :
    ∃ E', RepH S w0 E' (upd H id none) nx w ∧ RV E' (upd H id none) (.lst false e l) u := by
  obtain ⟨hn, x, ex, _, hx⟩ := hv; cases ex
  obtain ⟨base, cap, rfl, h2, h3, h4, h5⟩ := hx _ _ (by rw [ho]; rfl)
  obtain ⟨us, hc, hb⟩ := ObjOK_iff.1 (h.obj id _ ho)
  have hkill := h.kill id
  by_cases hl : l = []
  · subst hl
    exact ⟨E, hkill, Nat.zero_le _, base, cap, rfl, h2, [], rfl, .inl rfl⟩
  have hll : 0 < l.length := List.length_pos_iff.2 hl
  have hlen := EKL_len hc.1
  have hpos : 0 < us.length := by rw [hlen]; exact Nat.mul_pos hll hw
  rcases hb with ⟨hus, _⟩ | hb
  · subst hus; simp at hpos
  unfold Blk at hb
  rw [if_pos (show (JObj.row e l true).rw = true from rfl)] at hb
  obtain ⟨c, ct, lo, hi, hg, hfz, hsz, hlu, hu'⟩ := hb
  have hr : 0 < (E.φ id).room := by omega
  obtain ⟨o1, o2⟩ := h.own id _ ho rfl hr
  have hge : w0.heap.size ≤ (E.φ id).blk := o1.resolve_left (hS _)
  have hb5 : base = some ⟨(E.φ id).blk, (E.φ id).off, none⟩ := by
    rcases h5 with h5 | h5
    · omega
    · rw [Nat.zero_mul, Nat.add_zero] at h5; exact h5
  let E' : En := ⟨E.nx, E.φ, fun lv b => if b = (E.φ id).blk ∧ lv = some false then some c else E.im lv b⟩
  have him : ∀ lv b, b ≠ (E.φ id).blk → E'.im lv b = E.im lv b := fun lv b hb => if_neg (fun h => hb h.1)
  have him2 : E'.im (some false) (E.φ id).blk = some c := if_pos ⟨rfl, rfl⟩
  have him3 : ∀ lv, lv ≠ some false → E'.im lv (E.φ id).blk = none := fun lv hlv => by
    show (if _ then _ else _) = _
    rw [if_neg (fun h => hlv h.2)]; exact o2 lv
  have hmore : ∀ lv b x, E.im lv b = some x → E'.im lv b = some x := fun lv b x hx => by
    rw [him lv b (fun e => by subst e; rw [o2] at hx; cases hx)]; exact hx
  have G : Goes some E (upd H id none) E' (upd H id none) := ⟨fun i j hn e => by cases e; exact ⟨hn, rfl, .inr rfl⟩, hmore⟩
  refine ⟨E', { keeps := h.keeps, obj := ?_, own := ?_, apart := hkill.apart, imOK := ?_, imS := ?_, imSub := ?_, fresh := hkill.fresh, nx_ := h.nx_, mle := h.mle, pin := h.pin, im0 := ?_, shape := hkill.shape }, ?_⟩
  · intro i o hi'
    have := (hkill.obj i o hi').go (w' := w) G (i := i) rfl (fun _ _ => rfl)
    rwa [JObj.ren_some] at this
  · intro i o hi' hrw hp
    obtain ⟨q1, q2⟩ := hkill.own i o hi' hrw hp
    refine ⟨q1, fun lv => ?_⟩
    have hne : (E.φ i).blk ≠ (E.φ id).blk := fun e => by
      by_cases hii : i = id
      · subst hii; rw [upd_same] at hi'; cases hi'
      · rw [upd_ne _ _ hii] at hi'
        exact hii (h.apart i id o _ hi' ho hrw rfl hp hr e)
    exact (him lv _ hne).trans (q2 lv)
  · intro lv b x hx
    by_cases hb : b = (E.φ id).blk
    · subst hb
      by_cases hlv : lv = some false
      · subst hlv; rw [him2] at hx; cases hx; exact ⟨_, _, hg⟩
      · rw [him3 lv hlv] at hx; cases hx
    · rw [him lv b hb] at hx; exact h.imOK lv b x hx
  · intro lv b x hx
    by_cases hb : b = (E.φ id).blk
    · subst hb; exact .inr hge
    · rw [him lv b hb] at hx; exact h.imS lv b x hx
  · intro b x hx
    by_cases hb : b = (E.φ id).blk
    · subst hb; rw [him3 _ (by simp)] at hx; cases hx
    · rw [him _ b hb] at hx ⊢; exact h.imSub b x hx
  · intro lv b hb
    rw [him _ b (by omega)]; exact h.im0 lv b hb
  · refine ⟨hc.2, base, cap, rfl, h2, us, EKL.mono (E := E) (E' := E') hmore hc.1, .inr ⟨(E.φ id).blk, (E.φ id).off, hb5, c, him2, hu'⟩⟩
theorem brisk_put {s0 : St} {Sv : Sc} {E' : En} {st' : St} (hr : RepH S w0 E s0.H s0.nx w) (s1 : ∀ x, ¬ Sv.own x) (s2 : Sv.m = s0.nx) (s3 : Sv.φ0 = E.φ) (s4 : ∀ e b, Sv.im0 e b = E.im (some e) b) (s5 : ∀ i, Sv.sh0 i = shp (s0.H i)) (hr' : RepH Sv w E' st'.H st'.nx w') {v : JV} {u : Value} (hv : RV E' st'.H v u) :
    ∃ E3, RepH S w0 E3 s0.H s0.nx w' ∧ Goes some E s0.H E3 s0.H ∧ RV E3 s0.H (frzJ s0.nx st'.H v) u := by
  have plain : frzJ s0.nx st'.H v = v.ren (backC s0.nx st'.H) → ∃ E3, RepH S w0 E3 s0.H s0.nx w' ∧ Goes some E s0.H E3 s0.H ∧ RV E3 s0.H (frzJ s0.nx st'.H v) u := fun e => by
    obtain ⟨E3, r1, r2, r3⟩ := calm_put hr s1 s2 s3 s4 s5 hr'
    exact ⟨E3, r1, r2, by rw [e]; exact r3 _ _ hv⟩
  by_cases hf : ∃ id, v = .full id
  · obtain ⟨id, rfl⟩ := hf
    cases ho : st'.H id with
    | none => exact plain (by simp only [frzJ, ho])
    | some o =>
      cases o with
      | box cs rw => exact plain (by simp only [frzJ, ho])
      | row e l rw =>
        cases rw with
        | false => exact plain (by simp only [frzJ, ho])
        | true =>
          cases hc : (Nat.ble s0.nx id && Nat.ble 1 e.w) with
          | false => exact plain (by simp only [frzJ, ho, hc, cond_false])
          | true =>
            rw [Bool.and_eq_true] at hc
            obtain ⟨E2, k1, k2⟩ := freeze hr' s1 (Nat.le_of_ble_eq_true hc.2) ho hv
            obtain ⟨E3, r1, r2, r3⟩ := calm_put (st' := ⟨st'.env, upd st'.H id none, st'.nx⟩) hr s1 s2 s3 s4 s5 k1
            refine ⟨E3, r1, r2, ?_⟩
            have := r3 _ _ k2
            simp only [frzJ, ho, hc.1, hc.2, Bool.and_self, cond_true]
            exact this
  · exact plain (by cases v <;> first | rfl | exact (hf ⟨_, rfl⟩).elim)
theorem Guard.maskB {o : Oper} {t : Bool} (h : Guard all o.guard st t) : Guard all o.guard (maskB all o st) t := by
  have hs : ∀ {j : Nat} {want : Bool} {o' : Oper} {d : Nat}, o.guard = some (j, want) → all[j]? = some o' → o'.dst = some d → (Go.Eng.maskB all o st).env d = st.env d := fun {j want o' d} h1 h2 h3 => by
    show cond (memB d (seesB all o)) (st.env d) .junk = _
    have : memB d (seesB all o) = true := memB_iff.2 (by unfold seesB guardSlot; rw [h1]; simp only [h2, h3]; simp)
    rw [this]; rfl
  cases h with
  | none h => exact .none h
  | «at» h ho hd hb => exact .at h ho hd (by rw [hs h ho hd]; exact hb)
  | un h ho hd hb => exact .un h ho hd (by rw [hs h ho hd]; exact hb)
theorem calm_viewB {s0 sk : St} {o : Oper} (hr : RepH S w0 E s0.H s0.nx w) (hH : sk.H = s0.H) (hnx : sk.nx = s0.nx) (hdf : a.defers = []) (hv : ∀ i ∈ seesB all o, RV E s0.H (sk.env i) (a.tmps.getD i undef)) :
    ∃ (Sv : Sc) (Ev : En), (∀ x, ¬ Sv.own x) ∧ Sv.m = s0.nx ∧ Sv.φ0 = E.φ ∧ (∀ e b, Sv.im0 e b = E.im (some e) b) ∧ (∀ i, Sv.sh0 i = shp (s0.H i)) ∧ Rep Sv w Ev (maskB all o sk) a w := by
  have hro : ∀ id o', roH s0.H id = some o' → ∃ o1, s0.H id = some o1 ∧ o' = o1.ro := fun id o' h => by
    unfold roH at h
    cases hh : s0.H id with
    | none => rw [hh] at h; cases h
    | some o1 => rw [hh] at h; cases h; exact ⟨o1, rfl, rfl⟩
  have hsh : ∀ i, shp (roH s0.H i) = shp (s0.H i) := fun i => by
    unfold roH
    cases hh : s0.H i with
    | none => rfl
    | some o1 => exact shp_ro o1
  obtain ⟨I, hI1, hI2⟩ := all_ex w E.im
  have hmore : ∀ esc b c, E.im esc b = some c → I esc b = some c := fun esc b c hc => by
    cases esc with
    | some e => rw [hI1]; exact hc
    | none => exact (hI2 b c).2 (hr.imOK _ _ _ hc)
  have hIok : ∀ esc b c, I esc b = some c → ∃ t fz, w.heap[b]? = some (.cells c t fz) := fun esc b c hc => by
    cases esc with
    | some e => rw [hI1] at hc; exact hr.imOK _ _ _ hc
    | none => exact (hI2 b c).1 hc
  have G : Goes some E s0.H ⟨s0.nx, E.φ, I⟩ (roH s0.H) := ⟨fun id i hn hi => by
    cases hi; exact ⟨by rw [← hr.nx_]; exact hn, rfl, .inr (hsh id)⟩, hmore⟩
  have hmH : (maskB all o sk).H = roH s0.H := by show roH sk.H = _; rw [hH]
  have hmn : (maskB all o sk).nx = s0.nx := hnx
  refine ⟨⟨fun _ => False, s0.nx, E.φ, fun e => E.im (some e), fun i => shp (s0.H i)⟩, ⟨s0.nx, E.φ, I⟩, fun x h => h, rfl, rfl, fun _ _ => rfl, fun _ => rfl, { keeps := ⟨rfl, rfl, rfl, Nat.le_refl _, fun _ _ _ => rfl⟩, obj := ?_, own := ?_, apart := ?_, imOK := hIok, imS := ?_, imSub := ?_, fresh := ?_, nx_ := by rw [hmn], mle := by rw [hmn]; exact Nat.le_refl _, pin := fun _ _ => rfl, im0 := fun e b _ => hI1 e b, shape := fun i _ => .inr (by rw [hmH]; exact hsh i), env := ?_, defers := hdf }⟩
  · intro id o' ho'
    rw [hmH] at ho' ⊢
    obtain ⟨o1, h2, rfl⟩ := hro id o' ho'
    obtain ⟨us, k1, k2⟩ := ObjOK_iff.1 (hr.obj id o1 h2)
    refine ObjOK_iff.2 ⟨us, by have := (cont_ro k1).ren G; rwa [JObj.ren_some] at this, ?_⟩
    rw [ro_rw]
    rcases k2 with k2 | k2
    · exact .inl k2
    · right
      unfold Blk at k2 ⊢
      rw [if_neg (by simp)]
      cases hrw : o1.rw with
      | true =>
        rw [hrw, if_pos rfl] at k2
        obtain ⟨c, t, lo, hi, q1, q2, q3, q4, q5⟩ := k2
        exact ⟨q4, c, (hI2 _ _).2 ⟨_, _, q1⟩, q5⟩
      | false =>
        rw [hrw, if_neg (by simp)] at k2
        obtain ⟨q1, c, q2, q3⟩ := k2
        exact ⟨q1, c, hmore _ _ _ q2, q3⟩
  · intro id o' ho' hrw
    rw [hmH] at ho'
    obtain ⟨o1, h2, rfl⟩ := hro id o' ho'
    rw [ro_rw] at hrw; cases hrw
  · intro i j' x y hx hy hrx
    rw [hmH] at hx
    obtain ⟨o1, h2, rfl⟩ := hro i x hx
    rw [ro_rw] at hrx; cases hrx
  · intro esc b' c hc
    obtain ⟨t, fz, hg⟩ := hIok _ _ _ hc
    exact .inl ⟨lt_of_get hg, fun h => h⟩
  · intro b' c hc
    exact hmore _ _ _ (hr.imSub b' c (by rw [← hI1]; exact hc))
  · intro id hid
    rw [hmn] at hid; rw [hmH]; unfold roH; rw [hr.fresh id hid]
  · intro i
    rw [hmH]
    show RV _ _ (cond (memB i (seesB all o)) (sk.env i) .junk) _
    cases hm : memB i (seesB all o) with
    | false => trivial
    | true =>
      have := RV_ren G (hv i (memB_iff.1 hm))
      rw [ren_some] at this; exact this
def StepB (P : Program) (C : CallJ PK) (all : List Oper) (as : List (List Nat)) (nb : Nat) (k : Nat) (s s' : St) : Prop :=
  ∃ o, all[k]? = some o ∧ ((classB P all as k o = 0 ∧ Guard all o.guard s true ∧ okQ o.op s = true ∧ s' = s.set o.dst (opndQ o.op s)) ∨
    (classB P all as k o = 1 ∧ Guard all o.guard s true ∧ ∃ v st', opJ P C o.op o.type (maskB all o s) pk = some (v, st') ∧ s' = s.set o.dst (frzJ s.nx st'.H v)) ∨
    (classB P all as k o ≠ 3 ∧ Guard all o.guard s false ∧ s' = s.set o.dst (.tup [])) ∨
    ((classB P all as k o = 2 ∨ classB P all as k o = 3) ∧ Guard all o.guard s true ∧ ∃ v st', opJ P C o.op o.type (maskW P all as k s) pk = some (v, st') ∧ s' = ⟨(s.set o.dst v).env, st'.H, st'.nx⟩ ∧
      (classB P all as k o = 2 → s.nx ≤ st'.nx) ∧ (classB P all as k o = 3 → nb ≤ s.nx ∧ ownJ s.H nb (s.nx - nb) = true)))
theorem float_iff {c : Nat} : floatB c = true ↔ c = 0 ∨ c = 3 := by
  unfold floatB; simp
theorem float_no {c : Nat} (h : floatB c = false) : c ≠ 0 ∧ c ≠ 3 := by
  constructor <;> (rintro rfl; cases h)
theorem no_float {c : Nat} (h0 : c ≠ 0) (h3 : c ≠ 3) : floatB c = false := by
  cases h : floatB c with
  | false => rfl
  | true => rcases float_iff.1 h with h | h <;> contradiction
theorem ownJ_at {H : Nat → Option JObj} {nb : Nat} : ∀ {n : Nat}, ownJ H nb n = true → ∀ id o, nb ≤ id → id < nb + n → H id = some o → o.rw = true
  | 0, _, id, o, h1, h2, _ => by omega
  | n + 1, h, id, o, h1, h2, h3 => by
    simp only [ownJ, Bool.and_eq_true] at h
    rcases Nat.lt_or_ge id (nb + n) with h4 | h4
    · exact ownJ_at h.2 id o h1 h4 h3
    · have e : nb + n = id := by omega
      rw [e, h3] at h; exact h.1
theorem brisk_class : ∀ {l : List Oper} {j : Nat}, briskL P all as l j = true → ∀ (m : Nat) (o : Oper), l[m]? = some o → classB P all as (j + m) o ≤ 3 ∧ (classB P all as (j + m) o = 2 → cmpB2 P all as (j + m) all 0 = true) ∧ (classB P all as (j + m) o = 3 → allocB P all as (j + m) all 0 = true) ∧ ∀ i ∈ seesB all o, slotB as (j + m) i all 0 = true
  | [], j, h, m, o, hm => by simp at hm
  | x :: l, j, h, m, o, hm => by
    simp only [briskL, Bool.and_eq_true] at h
    cases m with
    | zero =>
      simp only [List.getElem?_cons_zero, Option.some.injEq] at hm; subst hm
      rw [Nat.add_zero]
      have h3 := h.1.1
      refine ⟨?_, fun h2 => ?_, fun h2 => ?_, fun i hi => List.all_eq_true.1 h.1.2 i hi⟩
      · split at h3
        · omega
        · omega
        · omega
        · omega
        · cases h3
      · rw [h2] at h3; exact h3
      · rw [h2] at h3; exact h3
    | succ m =>
      have := brisk_class h.2 m o (by simpa using hm)
      rw [show j + (m + 1) = j + 1 + m by omega]; exact this
theorem cmp2_at {j : Nat} : ∀ {l : List Oper} {k : Nat}, cmpB2 P all as j l k = true → ∀ (m : Nat) (o : Oper), l[m]? = some o → k + m = j ∨ floatB (classB P all as (k + m) o) = true ∨ k + m ∈ nthL as j ∨ j ∈ nthL as (k + m)
  | [], k, h, m, o, hm => by simp at hm
  | x :: l, k, h, m, o, hm => by
    simp only [cmpB2, Bool.and_eq_true] at h
    cases m with
    | zero =>
      simp only [List.getElem?_cons_zero, Option.some.injEq] at hm; subst hm
      have h1 := h.1
      simp only [Bool.or_eq_true, memB_iff] at h1
      rw [Nat.add_zero]
      rcases h1 with h1 | h1 | h1 | h1
      · exact .inl (Nat.eq_of_beq_eq_true h1)
      · exact .inr (.inl h1)
      · exact .inr (.inr (.inl h1))
      · exact .inr (.inr (.inr h1))
    | succ m =>
      have := cmp2_at h.2 m o (by simpa using hm)
      rw [show k + (m + 1) = k + 1 + m by omega]; exact this
theorem non_at {an : List Nat} {j : Nat} : ∀ {l : List Oper} {k : Nat}, nonB P all as an j l k = true → ∀ (m : Nat) (o : Oper), l[m]? = some o → k + m ≤ j → classB P all as (k + m) o ≠ 0 → k + m ∈ an
  | [], k, h, m, o, hm, _, _ => by simp at hm
  | x :: l, k, h, m, o, hm, hj, h0 => by
    simp only [nonB, Bool.and_eq_true] at h
    cases m with
    | zero =>
      simp only [List.getElem?_cons_zero, Option.some.injEq] at hm; subst hm
      have h1 := h.1
      rw [Nat.add_zero] at hj h0 ⊢
      simp only [Bool.or_eq_true, memB_iff] at h1
      rcases h1 with h1 | h1 | h1
      · rw [Nat.blt_eq] at h1; omega
      · exact (h0 (Nat.eq_of_beq_eq_true h1)).elim
      · exact h1
    | succ m =>
      rw [show k + (m + 1) = k + 1 + m by omega] at hj h0 ⊢
      exact non_at h.2 m o (by simpa using hm) hj h0
theorem alloc_at {j : Nat} : ∀ {l : List Oper} {k : Nat}, allocB P all as j l k = true → ∀ (m : Nat) (o : Oper), l[m]? = some o → j < k + m → (floatB (classB P all as (k + m) o) = true ∧ o.guard = none ∧ moveB o.op = true) ∨ nonB P all as (nthL as (k + m)) j all 0 = true
  | [], k, h, m, o, hm, _ => by simp at hm
  | x :: l, k, h, m, o, hm, hj => by
    simp only [allocB, Bool.and_eq_true] at h
    cases m with
    | zero =>
      simp only [List.getElem?_cons_zero, Option.some.injEq] at hm; subst hm
      have h1 := h.1
      rw [Nat.add_zero] at hj ⊢
      rw [Bool.or_eq_true, Bool.or_eq_true, Bool.and_eq_true, Bool.and_eq_true, Option.isNone_iff_eq_none] at h1
      rcases h1 with h1 | h1 | h1
      · have := Nat.le_of_ble_eq_true h1; omega
      · exact .inl h1
      · exact .inr h1
    | succ m =>
      have := alloc_at h.2 m o (by simpa using hm) (by omega)
      rw [show k + (m + 1) = k + 1 + m by omega]; exact this
theorem ahead_at {j i : Nat} : ∀ {l : List Oper} {k : Nat}, aheadB as j i l k = true → ∀ (m : Nat) (o : Oper), l[m]? = some o → o.dst = some i → k + m < j ∧ k + m ∈ nthL as j
  | [], k, h, m, o, hm, hd => by simp at hm
  | x :: l, k, h, m, o, hm, hd => by
    simp only [aheadB, Bool.and_eq_true] at h
    cases m with
    | zero =>
      simp only [List.getElem?_cons_zero, Option.some.injEq] at hm; subst hm
      have h1 := h.1
      rw [hd] at h1
      simp only [Nat.beq_refl, cond_true, Bool.and_eq_true, memB_iff] at h1
      rw [Nat.add_zero]
      exact ⟨by have := h1.1; rw [Nat.blt_eq] at this; exact this, h1.2⟩
    | succ m =>
      have := ahead_at h.2 m o (by simpa using hm) hd
      rw [show k + (m + 1) = k + 1 + m by omega]; exact this
theorem after_at {k d : Nat} : ∀ {l : List Oper} {j : Nat}, afterB all as k d l j = true → ∀ (m : Nat) (o : Oper), l[m]? = some o → d ∈ seesB all o → k ∈ nthL as (j + m)
  | [], j, h, m, o, hm, hd => by simp at hm
  | x :: l, j, h, m, o, hm, hd => by
    simp only [afterB, Bool.and_eq_true] at h
    cases m with
    | zero =>
      simp only [List.getElem?_cons_zero, Option.some.injEq] at hm; subst hm
      have h1 := h.1
      rw [memB_iff.2 hd] at h1
      rw [Nat.add_zero]; exact memB_iff.1 h1
    | succ m =>
      have := after_at h.2 m o (by simpa using hm) hd
      rw [show j + (m + 1) = j + 1 + m by omega]; exact this
theorem copy_at {j i : Nat} : ∀ {l : List Oper} {k : Nat}, copyB P all as j i l k = true ↔ ∃ (m : Nat) (o : Oper), l[m]? = some o ∧ o.dst = some i ∧ floatB (classB P all as (k + m) o) = true ∧ k + m ∉ nthL as j
  | [], k => by simp [copyB]
  | x :: l, k => by
    simp only [copyB, Bool.or_eq_true]
    rw [copy_at (l := l) (k := k + 1)]
    constructor
    · rintro (h | ⟨m, o, h1, h2, h3, h4⟩)
      · cases hd : x.dst with
        | none => rw [hd] at h; cases h
        | some d =>
          rw [hd] at h
          simp only [] at h
          cases hdi : Nat.beq d i with
          | false => rw [hdi] at h; cases h
          | true =>
            rw [hdi] at h
            simp only [cond_true, Bool.and_eq_true, Bool.not_eq_true'] at h
            have := Nat.eq_of_beq_eq_true hdi; subst this
            refine ⟨0, x, rfl, hd, h.1, fun hm => ?_⟩
            rw [Nat.add_zero] at hm
            rw [memB_iff.2 hm] at h; exact absurd h.2 (by simp)
      · exact ⟨m + 1, o, by simpa using h1, h2, by rw [show k + (m + 1) = k + 1 + m by omega]; exact h3, by rw [show k + (m + 1) = k + 1 + m by omega]; exact h4⟩
    · rintro ⟨m, o, h1, h2, h3, h4⟩
      cases m with
      | zero =>
        simp only [List.getElem?_cons_zero, Option.some.injEq] at h1; subst h1
        left
        rw [h2]
        simp only [Nat.beq_refl, cond_true, Bool.and_eq_true, Bool.not_eq_true']
        rw [Nat.add_zero] at h3 h4
        refine ⟨h3, ?_⟩
        cases hm : memB k (nthL as j) with
        | false => rfl
        | true => exact (h4 (memB_iff.1 hm)).elim
      | succ m =>
        right
        exact ⟨m, o, by simpa using h1, h2, by rw [show k + 1 + m = k + (m + 1) by omega]; exact h3, by rw [show k + 1 + m = k + (m + 1) by omega]; exact h4⟩
theorem class_copy {j : Nat} {o : Oper} (h : classB P all as j o = 0) : ∃ x d, (o.op = .move x ∨ o.op = .assign x ∨ ∃ i, o.op = .extract x i) ∧ o.dst = some d ∧ (∀ i ∈ tmpsOf x, aheadB as j i all 0 = true) ∧ afterB all as j d all 0 = true := by
  have two : ∀ {x : Operand}, (match o.dst with
      | some d => cond ((tmpsOf x).all (fun i => aheadB as j i all 0) && afterB all as j d all 0) 0 1
      | none => 1) = 0 → ∃ d, o.dst = some d ∧ (∀ i ∈ tmpsOf x, aheadB as j i all 0 = true) ∧ afterB all as j d all 0 = true := fun {x} h => by
    cases hd : o.dst with
    | none => rw [hd] at h; cases h
    | some d =>
      rw [hd] at h
      simp only [] at h
      cases hc : ((tmpsOf x).all (fun i => aheadB as j i all 0) && afterB all as j d all 0) with
      | false => rw [hc] at h; cases h
      | true => rw [Bool.and_eq_true] at hc; exact ⟨d, rfl, fun i hi => List.all_eq_true.1 hc.1 i hi, hc.2⟩
  unfold classB at h
  split at h
  · rename_i x he; obtain ⟨d, h1, h2, h3⟩ := two h; exact ⟨x, d, .inl he, h1, h2, h3⟩
  · rename_i x he; obtain ⟨d, h1, h2, h3⟩ := two h; exact ⟨x, d, .inr (.inl he), h1, h2, h3⟩
  · rename_i x i he; obtain ⟨d, h1, h2, h3⟩ := two h; exact ⟨x, d, .inr (.inr ⟨i, he⟩), h1, h2, h3⟩
  · split at h
    · rename_i d _
      cases hc : (o.guard.isNone && afterB all as j d all 0) <;> rw [hc] at h <;> cases h
    · cases h
  · cases h
  · cases hc : appB all o.dst <;> rw [hc] at h <;> cases h
  · split at h
    · cases h
    · split at h <;> cases h
    · cases hc : Nat.ble (classO P o) 1 <;> rw [hc] at h <;> cases h
  · cases hc : Nat.ble (classO P o) 1 <;> rw [hc] at h <;> cases h
theorem class_alloc {j : Nat} {o : Oper} (h : classB P all as j o = 3) : ∃ t d, o.op = .alloc t ∧ o.dst = some d ∧ o.guard = none ∧ afterB all as j d all 0 = true := by
  have two : ∀ {x : Operand}, (match o.dst with
      | some d => cond ((tmpsOf x).all (fun i => aheadB as j i all 0) && afterB all as j d all 0) 0 1
      | none => 1) = 3 → False := fun {x} h => by
    split at h
    · rename_i d _
      cases hc : ((tmpsOf x).all (fun i => aheadB as j i all 0) && afterB all as j d all 0) <;> rw [hc] at h <;> cases h
    · cases h
  unfold classB at h
  split at h
  · exact (two h).elim
  · exact (two h).elim
  · exact (two h).elim
  · rename_i t he
    split at h
    · rename_i d hd
      cases hc : (o.guard.isNone && afterB all as j d all 0) with
      | false => rw [hc] at h; cases h
      | true =>
        rw [Bool.and_eq_true, Option.isNone_iff_eq_none] at hc
        exact ⟨t, d, he, hd, hc.1, hc.2⟩
    · cases h
  · cases h
  · cases hc : appB all o.dst <;> rw [hc] at h <;> cases h
  · split at h
    · cases h
    · split at h <;> cases h
    · cases hc : Nat.ble (classO P o) 1 <;> rw [hc] at h <;> cases h
  · cases hc : Nat.ble (classO P o) 1 <;> rw [hc] at h <;> cases h
theorem guard_none {g : Option (Nat × Bool)} {t : Bool} (h : Guard all g st t) (hg : g = none) : t = true := by
  cases h with
  | none _ => rfl
  | «at» h _ _ _ => rw [hg] at h; cases h
  | un h _ _ _ => rw [hg] at h; cases h
theorem brisk_run {nb : Nat} (hN : CallNat C0 C) : ∀ (l : List Oper) (j : Nat) (st : St), all.drop j = l → (∀ (k : Nat) (o : Oper), all[k]? = some o → classB P all as k o ≤ 3) → briskJ P C0 all as nb l j st K = some r →
    ∃ tr : Nat → St, tr j = st ∧ (∀ k, j ≤ k → k < j + l.length → StepB P C all as nb k (tr k) (tr (k + 1))) ∧ K (tr (j + l.length)) = some r
  | [], j, st, hl, hc, h => ⟨fun _ => st, rfl, fun k h1 h2 => by simp at h2; omega, h⟩
  | o :: l, j, st, hl, hc, h => by
    obtain ⟨ho, hl'⟩ := drop_cons hl
    have go : ∀ s', briskJ P C0 all as nb l (j + 1) s' K = some r → StepB P C all as nb j st s' → ∃ tr : Nat → St, tr j = st ∧ (∀ k, j ≤ k → k < j + (o :: l).length → StepB P C all as nb k (tr k) (tr (k + 1))) ∧ K (tr (j + (o :: l).length)) = some r := by
      intro s' h1 h2
      obtain ⟨tr, t1, t2, t3⟩ := brisk_run hN l (j + 1) s' hl' hc h1
      refine ⟨fun i => if i ≤ j then st else tr i, by simp, fun k h3 h4 => ?_, ?_⟩
      · rcases Nat.eq_or_lt_of_le h3 with rfl | h3
        · simp only [Nat.le_refl, if_true]; rw [if_neg (by omega), t1]; exact h2
        · simp only []; rw [if_neg (by omega), if_neg (by omega)]; exact t2 k (by omega) (by simp at h4; omega)
      · simp only [List.length_cons]; rw [if_neg (by omega), show j + (l.length + 1) = j + 1 + l.length by omega]; exact t3
    have hcl := hc j o ho
    unfold briskJ at h
    rcases guard_inv h with ⟨hg, h⟩ | ⟨hg, h⟩
    · split at h
      · rename_i h0
        cases hq : okQ o.op st with
        | false => rw [hq] at h; cases h
        | true => rw [hq] at h; exact go _ h ⟨o, ho, .inl ⟨h0, hg, hq, rfl⟩⟩
      · rename_i h1
        rw [opJ_nat hN] at h
        obtain ⟨v, st', k1, k2⟩ := on_inv h
        exact go _ k2 ⟨o, ho, .inr (.inl ⟨h1, hg, v, st', k1, rfl⟩)⟩
      · rename_i hn0 hn1
        have e0 : ¬ classB P all as j o = 0 := hn0
        have e1 : ¬ classB P all as j o = 1 := hn1
        rw [opJ_nat hN] at h
        obtain ⟨v, st', k1, k2⟩ := on_inv h
        cases h3 : Nat.beq (classB P all as j o) 3 with
        | true =>
          have e3 := Nat.eq_of_beq_eq_true h3
          rw [h3, cond_true] at k2
          cases hc : (Nat.ble nb st.nx && ownJ st.H nb (st.nx - nb)) with
          | false => rw [hc] at k2; cases k2
          | true =>
            rw [hc, cond_true] at k2
            rw [Bool.and_eq_true] at hc
            exact go _ k2 ⟨o, ho, .inr (.inr (.inr ⟨.inr e3, hg, v, st', k1, rfl, fun h => by omega, fun _ => ⟨Nat.le_of_ble_eq_true hc.1, hc.2⟩⟩))⟩
        | false =>
          rw [h3, cond_false] at k2
          cases hc : Nat.ble st.nx st'.nx with
          | false => rw [hc] at k2; cases k2
          | true =>
            rw [hc, cond_true] at k2
            have e2 : classB P all as j o = 2 := by
              have : classB P all as j o ≠ 3 := fun h => by rw [h] at h3; cases h3
              omega
            exact go _ k2 ⟨o, ho, .inr (.inr (.inr ⟨.inl e2, hg, v, st', k1, rfl, fun _ => Nat.le_of_ble_eq_true hc, fun h => by rw [h] at h3; cases h3⟩))⟩
    · refine go _ h ⟨o, ho, .inr (.inr (.inl ⟨fun h3 => ?_, hg, rfl⟩))⟩
      obtain ⟨_, _, _, _, hgn, _⟩ := class_alloc h3
      cases guard_none hg hgn
section
variable {nb : Nat} {tr : Nat → St} (htr : ∀ k, k < all.length → StepB P C all as nb k (tr k) (tr (k + 1)))
include htr
theorem trb_env : ∀ d k, k + d ≤ all.length → ∀ i, (∀ (m : Nat) (o : Oper), k ≤ m → m < k + d → all[m]? = some o → o.dst ≠ some i) → (tr (k + d)).env i = (tr k).env i
  | 0, k, _, i, _ => rfl
  | d + 1, k, hk, i, hi => by
    rw [← trb_env d k (by omega) i fun m o h1 h2 => hi m o h1 (by omega)]
    obtain ⟨o, ho, h | h | h | h⟩ := htr (k + d) (by omega)
    · rw [show k + (d + 1) = k + d + 1 by omega, h.2.2.2]; exact set_env_ne (hi (k + d) o (by omega) (by omega) ho)
    · obtain ⟨_, _, v, st', _, e⟩ := h
      rw [show k + (d + 1) = k + d + 1 by omega, e]; exact set_env_ne (hi (k + d) o (by omega) (by omega) ho)
    · rw [show k + (d + 1) = k + d + 1 by omega, h.2.2]; exact set_env_ne (hi (k + d) o (by omega) (by omega) ho)
    · obtain ⟨_, _, v, st', _, e, _⟩ := h
      rw [show k + (d + 1) = k + d + 1 by omega, e]; exact set_env_ne (hi (k + d) o (by omega) (by omega) ho)
theorem trb_heap : ∀ d k, k + d ≤ all.length → (∀ (m : Nat) (o : Oper), k ≤ m → m < k + d → all[m]? = some o → classB P all as m o < 2) → (tr (k + d)).H = (tr k).H ∧ (tr (k + d)).nx = (tr k).nx
  | 0, k, _, _ => ⟨rfl, rfl⟩
  | d + 1, k, hk, hi => by
    obtain ⟨g1, g2⟩ := trb_heap d k (by omega) fun m o h1 h2 => hi m o h1 (by omega)
    rw [← g1, ← g2]
    obtain ⟨o, ho, h | h | h | h⟩ := htr (k + d) (by omega)
    · rw [show k + (d + 1) = k + d + 1 by omega, h.2.2.2]; exact ⟨set_H, set_nx⟩
    · obtain ⟨_, _, v, st', _, e⟩ := h
      rw [show k + (d + 1) = k + d + 1 by omega, e]; exact ⟨set_H, set_nx⟩
    · rw [show k + (d + 1) = k + d + 1 by omega, h.2.2]; exact ⟨set_H, set_nx⟩
    · have := hi (k + d) o (by omega) (by omega) ho
      have := h.1; omega
theorem alloc_run {j : Nat} {o : Oper} {t : TypeId} (ho : all[j]? = some o) (hc : classB P all as j o = 3) (hop : o.op = .alloc t) : ∃ z, zeroJ P t = some z ∧ tr (j + 1) = ⟨((tr j).set o.dst (.ptr (tr j).nx 0)).env, upd (tr j).H (tr j).nx (some (.box z true)), (tr j).nx + 1⟩ ∧ nb ≤ (tr j).nx ∧ ownJ (tr j).H nb ((tr j).nx - nb) = true := by
  obtain ⟨o', ho', h | h | h | h⟩ := htr j (List.getElem?_eq_some_iff.1 ho).1
  · rw [ho] at ho'; cases ho'; omega
  · rw [ho] at ho'; cases ho'; have := h.1; omega
  · rw [ho] at ho'; cases ho'; exact (h.1 hc).elim
  · rw [ho] at ho'; cases ho'
    obtain ⟨_, _, v, st', h1, h2, _, h3⟩ := h
    rw [hop] at h1
    unfold opJ at h1
    simp only [] at h1
    cases hz : zeroJ P t with
    | none => rw [hz] at h1; cases h1
    | some z =>
      rw [hz] at h1
      unfold pk at h1
      cases h1
      exact ⟨z, rfl, h2, (h3 hc).1, (h3 hc).2⟩
theorem trb_nx : ∀ d k, k + d ≤ all.length → (tr k).nx ≤ (tr (k + d)).nx
  | 0, k, _ => Nat.le_refl _
  | d + 1, k, hk => by
    refine Nat.le_trans (trb_nx d k (by omega)) ?_
    have hk' : k + d < all.length := by omega
    obtain ⟨o, ho, h | h | h | h⟩ := htr (k + d) hk'
    · rw [show k + (d + 1) = k + d + 1 by omega, h.2.2.2, set_nx]; exact Nat.le_refl _
    · obtain ⟨_, _, v, st', _, e⟩ := h
      rw [show k + (d + 1) = k + d + 1 by omega, e, set_nx]; exact Nat.le_refl _
    · rw [show k + (d + 1) = k + d + 1 by omega, h.2.2, set_nx]; exact Nat.le_refl _
    · by_cases h3 : classB P all as (k + d) o = 3
      · obtain ⟨t, _, hop, _⟩ := class_alloc h3
        obtain ⟨z, _, e, _⟩ := alloc_run htr ho h3 hop
        rw [show k + (d + 1) = k + d + 1 by omega, e]; exact Nat.le_succ _
      · obtain ⟨h2, _, v, st', _, e, h4, _⟩ := h
        rw [show k + (d + 1) = k + d + 1 by omega, e]
        exact h4 (h2.resolve_right h3)
end
theorem opnd_const {s s2 : St} {x : Operand} (h : ∀ y, x ≠ .tmp y) : opndJ s x = opndJ s2 x := by
  cases x with
  | tmp y => exact (h y rfl).elim
  | const v => unfold opndJ; split <;> first | rfl | (rename_i h'; cases h')
  | _ => rfl
def opndV (o : Op) (a : Act) : Value := match o with
  | .move x | .assign x => a.eval x
  | .extract x i => match a.eval x with
    | .tuple vs => vs.getD i undef
    | _ => undef
  | _ => undef
theorem opndV_eq {op : Op} {x : Operand} {a a' : Act} (hop : op = .move x ∨ op = .assign x ∨ ∃ i, op = .extract x i) (h : a.eval x = a'.eval x) : opndV op a = opndV op a' := by
  rcases hop with e | e | ⟨i, e⟩ <;> subst e <;> simp only [opndV, h]
theorem opndQ_eq {op : Op} {x : Operand} {s s' : St} (hop : op = .move x ∨ op = .assign x ∨ ∃ i, op = .extract x i) (h : opndJ s x = opndJ s' x) : opndQ op s = opndQ op s' := by
  rcases hop with e | e | ⟨i, e⟩ <;> subst e <;> simp only [opndQ, h]
theorem RV1l_at {vs : List JV} : ∀ {us : List Value} {i : Nat} {v : JV}, RV1l E H vs us → vs[i]? = some v → ∃ x, us[i]? = some x ∧ RV1 E H v x := by
  induction vs with
  | nil => intro us i v h h'; simp at h'
  | cons c r ih =>
    intro us i v h h'
    obtain ⟨y, b, rfl, h1, h2⟩ := h
    cases i with
    | zero => simp only [List.getElem?_cons_zero, Option.some.injEq] at h'; subst h'; exact ⟨y, rfl, h1⟩
    | succ i => simp only [List.getElem?_cons_succ] at h' ⊢; exact ih h2 h'
theorem RV_of1 {v : JV} {x : Value} (h : RV1 E H v x) : RV E H v x := by
  have hnt : ∀ q, v ≠ .tup q := fun q e => by subst e; simp only [RV1, RC] at h
  rw [RV_tup hnt]; exact h
theorem RV_copy {op : Op} {x : Operand} {s : St} (hop : op = .move x ∨ op = .assign x ∨ ∃ i, op = .extract x i) (h : RV E H (opndJ s x) (a.eval x)) : RV E H (opndQ op s) (opndV op a) := by
  rcases hop with e | e | ⟨i, e⟩ <;> subst e
  · exact h
  · exact h
  · simp only [opndQ]
    split
    · rename_i vs hvs
      rw [hvs] at h
      obtain ⟨xs, e, hl⟩ := h
      cases hv : vs[i]? with
      | none =>
        have : vs.getD i .junk = .junk := by simp [hv]
        rw [this]; trivial
      | some v =>
        obtain ⟨y, h1, h2⟩ := RV1l_at hl hv
        have e1 : vs.getD i .junk = v := by simp [hv]
        have e2 : opndV (.extract x i) a = y := by
          simp only [opndV, e]
          rw [Array.getD_eq_getD_getElem?, ← Array.getElem?_toList, h1]; rfl
        rw [e1, e2]; exact RV_of1 h2
    · trivial
structure RelB (P : Program) (S : Sc) (w0 : World) (all : List Oper) (as : List (List Nat)) (tr : Nat → St) (n : Nat) (J : Nat → Option Nat) (D : Nat → Bool) (a : Act) (w : World) (E : En) (p : Nat) : Prop where
  defers : a.defers = []
  size : a.tmps.size = n
  le : p ≤ all.length
  st : ∀ (j : Nat) (o : Oper), all[j]? = some o → 2 ≤ classB P all as j o → J j = none → (D j = true ↔ j < p)
  rep : RepH S w0 E (tr p).H (tr p).nx w
  al : ∀ (j : Nat) (o : Oper), all[j]? = some o → classB P all as j o = 3 → J j = none → D j = true → ∀ (m : Nat) (o' : Oper), all[m]? = some o' → m < j → classB P all as m o' ≠ 0 → D m = true
  res : ∀ j b, J j = some b → D j = true ∧ p ≤ j ∧ ∃ o d, all[j]? = some o ∧ classB P all as j o = 3 ∧ o.dst = some d ∧ a.tmps.getD d undef = .pointer (some ⟨b, 0, none⟩)
  v1 : ∀ i, (∀ (m : Nat) (o : Oper), all[m]? = some o → o.dst = some i → floatB (classB P all as m o) = false ∧ D m = false) → RV E (tr p).H ((tr 0).env i) (a.tmps.getD i undef)
  v2 : ∀ (m : Nat) (o : Oper) (i : Nat), all[m]? = some o → o.dst = some i → classB P all as m o ≠ 0 → J m = none → D m = true → RV E (tr p).H ((tr all.length).env i) (a.tmps.getD i undef)
  v3 : ∀ (m : Nat) (o : Oper) (i : Nat), all[m]? = some o → o.dst = some i → classB P all as m o = 0 → D m = true → (a.tmps.getD i undef = opndV o.op a ∧ (tr all.length).env i = opndQ o.op (tr all.length)) ∨ (a.tmps.getD i undef = undef ∧ (tr all.length).env i = .tup [])
section
variable {nb : Nat} {tr : Nat → St} {D : Nat → Bool} {J : Nat → Option Nat}
theorem copy_ok {p q : Nat} (htr : ∀ k, k < all.length → StepB P C all as nb k (tr k) (tr (k + 1))) (hD : ∀ j, D j = true → ∀ m ∈ nthL as j, D m = true) (hrel : RelB P S w0 all as tr n J D a w E p) (hq : ∀ j b, J j = some b → q ≤ j) :
    ∀ (m : Nat) (o : Oper) (i : Nat), m < q → all[m]? = some o → o.dst = some i → classB P all as m o = 0 → D m = true → RV E (tr p).H ((tr all.length).env i) (a.tmps.getD i undef) := by
  intro m
  induction m using Nat.strongRecOn with
  | ind m ih =>
    intro o i hmq hm hd h0 hDm
    rcases hrel.v3 m o i hm hd h0 hDm with ⟨e1, e2⟩ | ⟨e1, e2⟩
    · obtain ⟨x, d, hop, hd', hah, _⟩ := class_copy h0
      rw [e1, e2]
      refine RV_copy hop ?_
      have other : (∀ y, x ≠ .tmp y) → RV E (tr p).H (opndJ (tr all.length) x) (a.eval x) := fun hx => by
        have hR : Rep S w0 E ⟨fun _ => .junk, (tr p).H, (tr p).nx⟩ a w := { hrel.rep with env := fun _ => trivial, defers := hrel.defers }
        have := opnd_ok hR x
        rw [opnd_const (s2 := tr all.length) hx] at this; exact this
      cases x with
      | tmp y =>
        show RV E (tr p).H ((tr all.length).env y) (a.tmps.getD y undef)
        rcases Classical.em (∃ (m' : Nat) (o' : Oper), all[m']? = some o' ∧ o'.dst = some y) with ⟨m', o', hm', hd2⟩ | hno
        · have := ahead_at (hah y (by simp [tmpsOf])) m' o' hm' hd2
          rw [Nat.zero_add] at this
          by_cases h0' : classB P all as m' o' = 0
          · exact ih m' this.1 o' y (by omega) hm' hd2 h0' (hD m hDm m' this.2)
          · refine hrel.v2 m' o' y hm' hd2 h0' ?_ (hD m hDm m' this.2)
            cases hJ : J m' with
            | none => rfl
            | some b => have := hq m' b hJ; omega
        · have := trb_env htr all.length 0 (by omega) y (fun m'' o'' _ _ h5 h6 => hno ⟨m'', o'', h5, h6⟩)
          rw [Nat.zero_add] at this; rw [this]
          exact hrel.v1 y fun m'' o'' h5 h6 => (hno ⟨m'', o'', h5, h6⟩).elim
      | _ => exact other (fun y => by simp)
    · rw [e1, e2]; exact ⟨_, rfl, rfl⟩
theorem brisk_step {p : Nat} (htr : ∀ k, k < all.length → StepB P C all as nb k (tr k) (tr (k + 1))) {k : Nat} (hA : AncOK all as) (hone : DstOne all) (hbr : briskL P all as all 0 = true) (hD : ∀ j, D j = true → ∀ m ∈ nthL as j, D m = true) (hC : CallOK P C) (hops : ops.toList = all)
    (hdst : all.all (dstOk n) = true) (hrel : RelB P S w0 all as tr n J D a w E p) (hk : k < all.length) (hDk : D k = false) (hanc : ∀ m ∈ nthL as k, D m = true)
    (hk3 : ∀ o, all[k]? = some o → classB P all as k o ≠ 3 ∧ ((∀ j b, J j = some b → k < j) ∨ (classB P all as k o = 0 ∧ o.guard = none ∧ moveB o.op = true))) :
    wpOp P ops Q k (fun a' w' => ∃ E' p', RelB P S w0 all as tr n J (with_ D k) a' w' E' p') a w := by
  have hrel0 := hrel
  obtain ⟨hdf, hn, hp, hst, hr, hal, hres, hv1, hv2, hv3⟩ := hrel
  obtain ⟨o, q1, q2⟩ := htr k hk
  obtain ⟨hk3, hkJ⟩ := hk3 o q1
  have hJk : J k = none := by
    cases h : J k with
    | none => rfl
    | some b => have := (hres k b h).1; rw [hDk] at this; cases this
  have hcl := fun (m : Nat) (o : Oper) (h : all[m]? = some o) => by have := brisk_class hbr m o h; simp only [Nat.zero_add] at this; exact this
  have ho : ops[k]? = some o := by rw [← Array.getElem?_toList, hops]; exact q1
  have hlen : ∀ {m : Nat} {o : Oper}, all[m]? = some o → m < all.length := fun h => (List.getElem?_eq_some_iff.1 h).1
  have same : ∀ {m : Nat} {o' : Oper}, all[m]? = some o' → m = k → o' = o := fun h e => by subst e; rw [q1] at h; cases h; rfl
  have hdo : ∀ d, o.dst = some d → d < a.tmps.size := fun d hd => by
    rw [hn]; exact dstOk_ok (List.all_eq_true.1 hdst o (List.mem_of_getElem? q1)) d hd
  have hput : ∀ x i, o.dst ≠ some i → (a.put o.dst x).tmps.getD i undef = a.tmps.getD i undef := fun x i hi => by
    cases hd : o.dst with
    | none => rfl
    | some d =>
      rw [hd] at hi
      show (a.tmps.setIfInBounds d x).getD i undef = _
      rw [Array.getD_eq_getD_getElem?, Array.getElem?_setIfInBounds_ne (fun e => hi (by rw [e])), ← Array.getD_eq_getD_getElem?]
  have hputd : ∀ x d, o.dst = some d → (a.put o.dst x).tmps.getD d undef = x := fun x d hd => by
    have hlt := hdo d hd
    rw [hd]
    show (a.tmps.setIfInBounds d x).getD d undef = _
    rw [Array.getD_eq_getD_getElem?, Array.getElem?_setIfInBounds_self_of_lt hlt]; rfl
  have hdef : ∀ x, (a.put o.dst x).defers = [] := fun x => by cases o.dst <;> exact hdf
  -- places ahead and behind
  have envB : ∀ i, (∀ (m : Nat) (o : Oper), k ≤ m → all[m]? = some o → o.dst ≠ some i) → (tr all.length).env i = (tr k).env i := fun i hi => by
    have := trb_env htr (all.length - k) k (by omega) i (fun m o h1 h2 => hi m o h1)
    rwa [show k + (all.length - k) = all.length by omega] at this
  have envA : ∀ i, (∀ (m : Nat) (o : Oper), m < k → all[m]? = some o → o.dst ≠ some i) → (tr k).env i = (tr 0).env i := fun i hi => by
    have := trb_env htr k 0 (by omega) i (fun m o h1 h2 => hi m o (by omega))
    rwa [Nat.zero_add] at this
  have hlast : ∀ d, o.dst = some d → (tr all.length).env d = (tr (k + 1)).env d := fun d hd => by
    have := trb_env htr (all.length - (k + 1)) (k + 1) (by omega) d (fun m o' h1 h2 h3 h4 => by have := hone k m o o' d q1 h3 hd h4; omega)
    rwa [show k + 1 + (all.length - (k + 1)) = all.length by omega] at this
  -- what a place holds that was filled ahead, or not yet
  have ahead : (∀ j b, J j = some b → k < j) → ∀ (m : Nat) (o' : Oper) (i : Nat), all[m]? = some o' → o'.dst = some i → m ∈ nthL as k → RV E (tr p).H ((tr k).env i) (a.tmps.getD i undef) := fun hkj m o' i hm hd hma => by
    have hmk := hA.lt k m hma
    rw [← envB i fun m' o'' h3 h5 h6 => by have := hone m m' o' o'' i hm h5 hd h6; omega]
    by_cases h0 : classB P all as m o' = 0
    · exact copy_ok htr hD hrel0 (q := k) (fun j b h => Nat.le_of_lt (hkj j b h)) m o' i hmk hm hd h0 (hanc m hma)
    · refine hv2 m o' i hm hd h0 ?_ (hanc m hma)
      cases hJ : J m with
      | none => rfl
      | some b => have := hkj m b hJ; omega
  have behind : ∀ (m : Nat) (o' : Oper) (i : Nat), all[m]? = some o' → o'.dst = some i → k ≤ m → floatB (classB P all as m o') = false → D m = false → RV E (tr p).H ((tr k).env i) (a.tmps.getD i undef) := fun m o' i hm hd hmk h0 hDm => by
    rw [envA i fun m' o'' h3 h5 h6 => by have := hone m m' o' o'' i hm h5 hd h6; omega]
    exact hv1 i fun m' o'' h5 h6 => by
      have e := hone m m' o' o'' i hm h5 hd h6
      subst e; rw [hm] at h5; cases h5; exact ⟨h0, hDm⟩
  have nowhere : ∀ i, (¬ ∃ (m : Nat) (o' : Oper), all[m]? = some o' ∧ o'.dst = some i) → RV E (tr p).H ((tr k).env i) (a.tmps.getD i undef) := fun i hno => by
    rw [envA i fun m' o'' h3 h5 h6 => hno ⟨m', o'', h5, h6⟩]
    exact hv1 i fun m' o'' h5 h6 => (hno ⟨m', o'', h5, h6⟩).elim
  have notD : ∀ m, k ∈ nthL as m → D m = false := fun m h => by
    cases hh : D m with
    | false => rfl
    | true => have := hD m hh k h; rw [hDk] at this; cases this
  have hsee : (∀ j b, J j = some b → k < j) → ∀ i ∈ seesB all o, RV E (tr p).H ((tr k).env i) (a.tmps.getD i undef) := fun hkj i hi => by
    have hs := slot_at ((hcl k o q1).2.2.2 i hi)
    simp only [Nat.zero_add] at hs
    rcases Classical.em (∃ (m : Nat) (o' : Oper), all[m]? = some o' ∧ o'.dst = some i) with ⟨m, o', hm, hd⟩ | hno
    · rcases hs m o' hm hd with ⟨h1, h2⟩ | ⟨h1, h2⟩
      · exact ahead hkj m o' i hm hd h2
      · refine behind m o' i hm hd (by omega) (no_float (fun h0 => ?_) (fun h0 => ?_)) (notD m h2)
        · obtain ⟨x, d, _, hd', _, haf⟩ := class_copy h0
          rw [hd] at hd'; cases hd'
          have := after_at haf k o q1 hi
          rw [Nat.zero_add] at this
          have := hA.lt k m this; omega
        · obtain ⟨x, d, _, hd', _, haf⟩ := class_alloc h0
          rw [hd] at hd'; cases hd'
          have := after_at haf k o q1 hi
          rw [Nat.zero_add] at this
          have := hA.lt k m this; omega
    · exact nowhere i hno
  -- what makes or writes, before and behind
  have hbelow : classB P all as k o ≠ 0 → ∀ j b, J j = some b → k < j := fun h0 => hkJ.resolve_right fun h => h0 h.1
  have hcmp : classB P all as k o ≠ 0 → ∀ (j : Nat) (o' : Oper), all[j]? = some o' → 2 ≤ classB P all as j o' → J j = none → j ≠ k → (D j = true ↔ j < k) := fun h1 j o' hj h2 hJj hjk => by
    have hle := (hcl j o' hj).1
    have h23 : classB P all as j o' = 2 ∨ classB P all as j o' = 3 := by omega
    rcases h23 with h2 | h2
    · have hc := (hcl j o' hj).2.1 h2
      have := cmp2_at hc k o q1
      simp only [Nat.zero_add] at this
      rcases this with h3 | h3 | h3 | h3
      · exact (hjk h3.symm).elim
      · rcases float_iff.1 h3 with h3 | h3 <;> contradiction
      · constructor
        · intro hDj; have := hD j hDj k h3; rw [hDk] at this; cases this
        · intro hlt; have := hA.lt j k h3; omega
      · constructor
        · intro _; exact hA.lt k j h3
        · intro _; exact hanc j h3
    · constructor
      · intro hDj
        rcases Nat.lt_trichotomy j k with h | h | h
        · exact h
        · exact (hjk h).elim
        · have := hal j o' hj h2 hJj hDj k o q1 h h1; rw [hDk] at this; cases this
      · intro hlt
        have hc := (hcl j o' hj).2.2.1 h2
        have := alloc_at hc k o q1 (by omega)
        simp only [Nat.zero_add] at this
        rcases this with ⟨h3, _⟩ | h3
        · rcases float_iff.1 h3 with h3 | h3 <;> contradiction
        · have := non_at h3 j o' hj (by omega) (by rw [Nat.zero_add]; omega)
          rw [Nat.zero_add] at this
          exact hanc j this
  have hpJ : ∀ j b, J j = some b → p ≤ j := fun j b h => (hres j b h).2.1
  have hheap : classB P all as k o ≠ 0 → (tr p).H = (tr k).H ∧ (tr p).nx = (tr k).nx := fun h1 => by
    have noJ : ∀ m, m < k ∨ m < p → J m = none := fun m hm => by
      cases hJ : J m with
      | none => rfl
      | some b =>
        have := hbelow h1 m b hJ
        have := hpJ m b hJ; omega
    rcases Nat.lt_or_ge p k with h2 | h2
    · have := trb_heap htr (k - p) p (by omega) (fun m o' h3 h4 h5 => by
        rcases Nat.lt_or_ge (classB P all as m o') 2 with h6 | h6
        · exact h6
        · have hJm := noJ m (by omega)
          have h7 := (hcmp h1 m o' h5 h6 hJm (by omega)).2 (by omega)
          have := (hst m o' h5 h6 hJm).1 h7; omega)
      rw [show p + (k - p) = k by omega] at this; exact ⟨this.1.symm, this.2.symm⟩
    · have := trb_heap htr (p - k) k (by omega) (fun m o' h3 h4 h5 => by
        rcases Nat.lt_or_ge (classB P all as m o') 2 with h6 | h6
        · exact h6
        · have hJm := noJ m (by omega)
          have h7 := (hst m o' h5 h6 hJm).2 (by omega)
          rcases Nat.eq_or_lt_of_le h3 with h8 | h8
          · subst h8; rw [hDk] at h7; cases h7
          · have := (hcmp h1 m o' h5 h6 hJm (by omega)).1 h7; omega)
      rw [show k + (p - k) = p by omega] at this; exact this
  have keepP : classB P all as k o ≠ 2 → ∀ (j : Nat) (o' : Oper), all[j]? = some o' → 2 ≤ classB P all as j o' → J j = none → (with_ D k j = true ↔ j < p) := fun h1 j o' hj h2 hJ => by
    have hjk : j ≠ k := fun e => by subst e; rw [q1] at hj; cases hj; have := (hcl _ _ q1).1; omega
    rw [with_iff, hst j o' hj h2 hJ]
    constructor
    · rintro (h | h)
      · exact h
      · exact (hjk h).elim
    · exact .inl
  have nextP : classB P all as k o = 2 → ∀ (j : Nat) (o' : Oper), all[j]? = some o' → 2 ≤ classB P all as j o' → J j = none → (with_ D k j = true ↔ j < k + 1) := fun h1 j o' hj h2 hJ => by
    rw [with_iff]
    by_cases hjk : j = k
    · subst hjk; exact ⟨fun _ => Nat.lt_succ_self _, fun _ => .inr rfl⟩
    · rw [hcmp (by omega) j o' hj h2 hJ hjk]
      constructor
      · rintro (h | h)
        · omega
        · exact (hjk h).elim
      · intro h; exact .inl (by omega)
  have nal : ∀ (j : Nat) (o' : Oper), all[j]? = some o' → classB P all as j o' = 3 → J j = none → with_ D k j = true → ∀ (m : Nat) (o2 : Oper), all[m]? = some o2 → m < j → classB P all as m o2 ≠ 0 → with_ D k m = true := fun j o' hj h3 hJ hw m o2 hm hmj h0 => by
    rcases with_iff.1 hw with h | rfl
    · exact with_iff.2 (.inl (hal j o' hj h3 hJ h m o2 hm hmj h0))
    · rw [q1] at hj; cases hj; exact (hk3 h3).elim
  have nres : ∀ {p' : Nat}, (∀ j b, J j = some b → p' ≤ j) → ∀ (x : Value) (j b : Nat), J j = some b → with_ D k j = true ∧ p' ≤ j ∧ ∃ o1 d, all[j]? = some o1 ∧ classB P all as j o1 = 3 ∧ o1.dst = some d ∧ (a.put o.dst x).tmps.getD d undef = .pointer (some ⟨b, 0, none⟩) := fun hp' x j b hJ => by
    obtain ⟨h1, _, o1, d, h2, h3, h4, h5⟩ := hres j b hJ
    refine ⟨with_iff.2 (.inl h1), hp' j b hJ, o1, d, h2, h3, h4, ?_⟩
    rw [hput x d fun e => ?_]; · exact h5
    have := hone j k o1 o d h2 q1 h4 e
    subst this; rw [hJk] at hJ; cases hJ
  -- copies stay copies
  have copies : ∀ (x : Value), (classB P all as k o = 0 → (x = opndV o.op a ∧ ∀ d, o.dst = some d → (tr all.length).env d = opndQ o.op (tr all.length)) ∨ (x = undef ∧ ∀ d, o.dst = some d → (tr all.length).env d = .tup [])) →
      ∀ (m : Nat) (o' : Oper) (i : Nat), all[m]? = some o' → o'.dst = some i → classB P all as m o' = 0 → with_ D k m = true → ((a.put o.dst x).tmps.getD i undef = opndV o'.op (a.put o.dst x) ∧ (tr all.length).env i = opndQ o'.op (tr all.length)) ∨ ((a.put o.dst x).tmps.getD i undef = undef ∧ (tr all.length).env i = .tup []) := fun x hx m o' i hm hd h0 hw => by
    obtain ⟨y, d, hop, hd', hah, _⟩ := class_copy h0
    have hstay : (m = k ∨ D m = true) → opndV o'.op (a.put o.dst x) = opndV o'.op a := fun hor => by
      have key : (a.put o.dst x).eval y = a.eval y := by
        cases y with
        | tmp z =>
          show (a.put o.dst x).tmps.getD z undef = a.tmps.getD z undef
          refine hput x z fun e => ?_
          have := ahead_at (hah z (by simp [tmpsOf])) k o q1 e
          rw [Nat.zero_add] at this
          rcases hor with h | h
          · omega
          · have := hD m h k this.2; rw [hDk] at this; cases this
        | _ => cases o.dst <;> rfl
      exact opndV_eq hop key
    by_cases hmk : m = k
    · have e := same hm hmk
      subst e; subst hmk
      rw [hputd x i hd]
      rcases hx h0 with ⟨e1, e2⟩ | ⟨e1, e2⟩
      · exact .inl ⟨by rw [hstay (.inl rfl)]; exact e1, e2 i hd⟩
      · exact .inr ⟨e1, e2 i hd⟩
    · have hDm := (with_iff.1 hw).resolve_right hmk
      have hne : o.dst ≠ some i := fun e => hmk (hone m k o' o i hm q1 hd e)
      rw [hput x i hne, hstay (.inr hDm)]
      exact hv3 m o' i hm hd h0 hDm
  -- what was known stays known
  have after : ∀ {E3 : En} {x : Value} {H' : Nat → Option JObj}, (∀ v u, RV E (tr p).H v u → RV E3 H' v u) → (classB P all as k o ≠ 0 → ∀ d, o.dst = some d → RV E3 H' ((tr all.length).env d) x) →
      (∀ i, (∀ (m : Nat) (o : Oper), all[m]? = some o → o.dst = some i → floatB (classB P all as m o) = false ∧ with_ D k m = false) → RV E3 H' ((tr 0).env i) ((a.put o.dst x).tmps.getD i undef)) ∧
      ∀ (m : Nat) (o' : Oper) (i : Nat), all[m]? = some o' → o'.dst = some i → classB P all as m o' ≠ 0 → J m = none → with_ D k m = true → RV E3 H' ((tr all.length).env i) ((a.put o.dst x).tmps.getD i undef) := fun {E3 x H'} hgo hx => by
    constructor
    · intro i hi
      have hne : o.dst ≠ some i := fun e => (with_false (hi k o q1 e).2).2 rfl
      rw [hput _ i hne]
      exact hgo _ _ (hv1 i fun m o' hm hd => ⟨(hi m o' hm hd).1, (with_false (hi m o' hm hd).2).1⟩)
    · intro m o' i hm hd h0 hJ hw
      by_cases hmk : m = k
      · have e := same hm hmk
        subst e; subst hmk
        rw [hputd _ i hd]; exact hx h0 i hd
      · have hne : o.dst ≠ some i := fun e => hmk (hone m k o' o i hm q1 hd e)
        rw [hput _ i hne]
        exact hgo _ _ (hv2 m o' i hm hd h0 hJ ((with_iff.1 hw).resolve_right hmk))
  have hview : (∀ j b, J j = some b → k < j) → _ := fun hkj => calm_viewB (all := all) (o := o) (s0 := tr p) (sk := ⟨(tr k).env, (tr p).H, (tr p).nx⟩) hr rfl rfl hdf (hsee hkj)
  have hgd : ∀ {t : Bool}, Guard all o.guard (tr k) t → Region.wanted o (yielded ops a.tmps) = t := fun {t} hg => by
    rcases hkJ with hkj | ⟨_, hgn⟩
    · obtain ⟨Sv, Ev, s1, s2, s3, s4, s5, hR⟩ := hview hkj
      exact guard_want hops hR (hg.heap.maskB)
    · rw [guard_none hg hgn.1]
      unfold Region.wanted; rw [hgn.1]
  unfold wpOp
  rw [ho]
  simp only []
  rcases q2 with ⟨h0, hg, hqk, hnext⟩ | ⟨h1, hg, v, st', hval, hnext⟩ | ⟨_, hg, hnext⟩ | ⟨h23, hg, v, st', hval, hnext, _, _⟩
  · -- a copy
    obtain ⟨y, d, hop, hd', hah, _⟩ := class_copy h0
    rw [if_pos (hgd hg)]
    left
    have hland : Lands P (fun x w'' => x = opndV o.op a ∧ w'' = w) ((execOp a.eval o).run P w) := by
      rcases hop with he | he | ⟨i, he⟩
      · simp only [execOp, he]; exact ⟨rfl, rfl⟩
      · simp only [execOp, he]; exact ⟨rfl, rfl⟩
      · have hkj := hkJ.resolve_right fun h => by
          have := h.2.2
          rw [he] at this; cases this
        rw [he] at hqk
        simp only [okQ] at hqk
        split at hqk
        · rename_i vs hvs
          have other : (∀ z, y ≠ .tmp z) → RV E (tr p).H (opndJ (tr k) y) (a.eval y) := fun hx => by
            have hR : Rep S w0 E ⟨fun _ => .junk, (tr p).H, (tr p).nx⟩ a w := { hr with env := fun _ => trivial, defers := hdf }
            have := opnd_ok hR y
            rw [opnd_const (s2 := tr k) hx] at this; exact this
          have hsrc : RV E (tr p).H (opndJ (tr k) y) (a.eval y) := by
            cases y with
            | tmp z =>
              show RV E (tr p).H ((tr k).env z) (a.tmps.getD z undef)
              rcases Classical.em (∃ (m : Nat) (o' : Oper), all[m]? = some o' ∧ o'.dst = some z) with ⟨m, o', hm, hd2⟩ | hno
              · have := ahead_at (hah z (by simp [tmpsOf])) m o' hm hd2
                rw [Nat.zero_add] at this
                exact ahead hkj m o' z hm hd2 this.2
              · exact nowhere z hno
            | _ => exact other (fun y => by simp)
          rw [hvs] at hsrc
          obtain ⟨xs, e, hl⟩ := hsrc
          have hlt : i < vs.length := by rw [Nat.blt_eq] at hqk; exact hqk
          obtain ⟨x, h1, h2⟩ := RV1l_at (i := i) (v := vs[i]) hl (by simp [hlt])
          have e' : a.eval y = .tuple xs := e
          have e2 : opndV o.op a = x := by
            rw [he]
            simp only [opndV, e']
            rw [Array.getD_eq_getD_getElem?, ← Array.getElem?_toList, h1]; rfl
          rw [e2]
          simp only [execOp, he, e', Instr.extract]
          rw [← Array.getElem?_toList, h1]; exact ⟨rfl, rfl⟩
        · cases hqk
    refine hland.upon fun x w'' hx => ?_
    obtain ⟨rfl, rfl⟩ := hx
    obtain ⟨x1, x2⟩ := after (E3 := E) (x := opndV o.op a) (H' := (tr p).H) (fun _ _ h => h) (fun h => (h h0).elim)
    refine ⟨E, p, hdef _, by rw [put_size]; exact hn, hp, keepP (by omega), hr, nal, nres hpJ _, x1, x2, copies _ fun _ => .inl ⟨rfl, fun d' hd2 => ?_⟩⟩
    rw [hlast d' hd2, hnext, hd2, set_env_at]
    have same2 : ∀ z ∈ tmpsOf y, (tr k).env z = (tr all.length).env z := fun z hz => by
      refine (envB z fun m o' h3 h4 h5 => ?_).symm
      have := ahead_at (hah z hz) m o' h4 h5
      rw [Nat.zero_add] at this; omega
    have : opndJ (tr k) y = opndJ (tr all.length) y := by
      cases y with
      | tmp z => exact same2 z (by simp [tmpsOf])
      | _ => exact opnd_const (fun y => by simp)
    exact opndQ_eq hop this
  · -- it tells a value
    obtain ⟨Sv, Ev, s1, s2, s3, s4, s5, hR⟩ := hview (hbelow (by omega))
    obtain ⟨e1, e2⟩ := hheap (by omega)
    have hval2 : opJ P C o.op o.type (maskB all o ⟨(tr k).env, (tr p).H, (tr p).nx⟩) pk = some (v, st') := by rw [e1, e2]; exact hval
    rw [if_pos (hgd hg)]
    left
    refine (opJ_ok hC hR hval2).upon fun x w' hout => ?_
    obtain ⟨E', jv, st1, k1, k2, k3, k4⟩ := hout
    unfold pk at k1
    cases k1
    obtain ⟨E3, r1, r2, r3⟩ := brisk_put (s0 := tr p) hr s1 s2 s3 s4 s5 k4.toRepH k3
    obtain ⟨x1, x2⟩ := after (E3 := E3) (x := x) (H' := (tr p).H) (fun v u h => by have := RV_ren r2 h; rwa [ren_some] at this) (fun _ d hd' => by
      rw [hlast d hd', hnext, hd', set_env_at, ← e2]; exact r3)
    exact ⟨E3, p, hdef _, by rw [put_size]; exact hn, hp, keepP (by omega), r1, nal, nres hpJ _, x1, x2, copies _ fun h => by omega⟩
  · -- it isn't wanted
    rw [if_neg (by rw [hgd hg]; simp)]
    have hx : ∀ d, o.dst = some d → (tr all.length).env d = .tup [] := fun d hd => by rw [hlast d hd, hnext, hd, set_env_at]
    obtain ⟨x1, x2⟩ := after (E3 := E) (x := undef) (H' := (tr p).H) (fun _ _ h => h) (fun _ d hd => by rw [hx d hd]; exact ⟨_, rfl, rfl⟩)
    have x3 := copies undef fun _ => .inr ⟨rfl, hx⟩
    by_cases h2 : classB P all as k o = 2
    · have hH : (tr (k + 1)).H = (tr p).H := by rw [hnext, set_H, (hheap (by omega)).1]
      have hN : (tr (k + 1)).nx = (tr p).nx := by rw [hnext, set_nx, (hheap (by omega)).2]
      exact ⟨E, k + 1, hdef _, by rw [put_size]; exact hn, by omega, nextP h2, by rw [hH, hN]; exact hr, nal, nres (hbelow (by omega)) _, by rw [hH]; exact x1, by rw [hH]; exact x2, x3⟩
    · exact ⟨E, p, hdef _, by rw [put_size]; exact hn, hp, keepP h2, hr, nal, nres hpJ _, x1, x2, x3⟩
  · -- it makes or writes
    have h2 : classB P all as k o = 2 := h23.resolve_right hk3
    have hkj := hbelow (by omega)
    obtain ⟨e1, e2⟩ := hheap (by omega)
    rw [if_pos (hgd hg)]
    left
    -- what is ahead, or beside it
    have side : ∀ (m : Nat) (o' : Oper), all[m]? = some o' → classB P all as m o' ≠ 0 → classB P all as m o' ≠ 3 → m = k ∨ m ∈ nthL as k ∨ k ∈ nthL as m := fun m o' hm h0 h3 => by
      have := cmp2_at ((hcl k o q1).2.1 h2) m o' hm
      simp only [Nat.zero_add] at this
      rcases this with h4 | h4 | h4 | h4
      · exact .inl h4
      · rcases float_iff.1 h4 with h4 | h4 <;> contradiction
      · exact .inr (.inl h4)
      · exact .inr (.inr h4)
    have aside : ∀ (m : Nat) (o' : Oper), all[m]? = some o' → classB P all as m o' = 3 → m < k → m ∈ nthL as k := fun m o' hm h3 hlt => by
      have := alloc_at ((hcl m o' hm).2.2.1 h3) k o q1 (by omega)
      simp only [Nat.zero_add] at this
      rcases this with ⟨h4, _⟩ | h4
      · rw [h2] at h4; cases h4
      · have := non_at h4 m o' hm (by omega) (by rw [Nat.zero_add]; omega)
        rwa [Nat.zero_add] at this
    have hmask : ∀ i, copyB P all as k i all 0 = false → RV E (tr p).H ((tr k).env i) (a.tmps.getD i undef) := fun i hc => by
      rcases Classical.em (∃ (m : Nat) (o' : Oper), all[m]? = some o' ∧ o'.dst = some i) with ⟨m, o', hm, hd⟩ | hno
      · cases h0 : floatB (classB P all as m o') with
        | true =>
          have : m ∈ nthL as k := by
            rcases Classical.em (m ∈ nthL as k) with h | h
            · exact h
            · have := copy_at.2 ⟨m, o', hm, hd, by rw [Nat.zero_add]; exact h0, by rw [Nat.zero_add]; exact h⟩
              rw [hc] at this; cases this
          exact ahead hkj m o' i hm hd this
        | false =>
          by_cases hmk : m = k
          · exact behind m o' i hm hd (by omega) h0 (by rw [hmk]; exact hDk)
          · rcases side m o' hm (float_no h0).1 (float_no h0).2 with h3 | h3 | h3
            · exact (hmk h3).elim
            · exact ahead hkj m o' i hm hd h3
            · exact behind m o' i hm hd (by have := hA.lt m k h3; omega) h0 (notD m h3)
      · exact nowhere i hno
    have hRw : Rep S w0 E (maskW P all as k (tr k)) a w := by
      refine { (show RepH S w0 E (tr k).H (tr k).nx w by rw [← e1, ← e2]; exact hr) with env := fun i => ?_, defers := hdf }
      show RV E (tr k).H (cond (copyB P all as k i all 0) .junk ((tr k).env i)) _
      rw [← e1]
      cases hc : copyB P all as k i all 0 with
      | true => trivial
      | false => exact hmask i hc
    refine (opJ_ok hC hRw hval).upon fun x w' hout => ?_
    obtain ⟨E', jv, st1, k1, k2, k3, k4⟩ := hout
    unfold pk at k1
    cases k1
    have hH2 : (tr (k + 1)).H = st'.H := by rw [hnext]
    have hN2 : (tr (k + 1)).nx = st'.nx := by rw [hnext]
    have hE : ∀ i, copyB P all as k i all 0 = false → RV E' st'.H ((tr k).env i) (a.tmps.getD i undef) := fun i hc => by
      have := k4.env i
      rw [k2] at this
      have e : (maskW P all as k (tr k)).env i = (tr k).env i := by show cond _ _ _ = _; rw [hc]; rfl
      rwa [e] at this
    have nocopy : ∀ (m : Nat) (o' : Oper) (i : Nat), all[m]? = some o' → o'.dst = some i → (floatB (classB P all as m o') = false ∨ m ∈ nthL as k) → copyB P all as k i all 0 = false := fun m o' i hm hd h0 => by
      cases hc : copyB P all as k i all 0 with
      | false => rfl
      | true =>
        obtain ⟨m', o'', a1, a2, a3, a4⟩ := copy_at.1 hc
        rw [Nat.zero_add] at a3 a4
        have e := hone m m' o' o'' i hm a1 hd a2
        subst e; rw [hm] at a1; cases a1
        rcases h0 with h0 | h0
        · rw [a3] at h0; cases h0
        · exact (a4 h0).elim
    refine ⟨E', k + 1, hdef _, by rw [put_size]; exact hn, by omega, nextP h2, by rw [hH2, hN2]; exact k4.toRepH, nal, nres hkj _, ?_, ?_, copies _ fun h => by omega⟩
    · intro i hi
      rw [hH2]
      have hne : o.dst ≠ some i := fun e => (with_false (hi k o q1 e).2).2 rfl
      rw [hput _ i hne]
      rcases Classical.em (∃ (m : Nat) (o' : Oper), all[m]? = some o' ∧ o'.dst = some i) with ⟨m, o', hm, hd⟩ | hno
      · obtain ⟨h0, hw⟩ := hi m o' hm hd
        have hDm := (with_false hw).1
        have hmk : ¬ m < k := fun hlt => by
          rcases side m o' hm (float_no h0).1 (float_no h0).2 with h3 | h3 | h3
          · omega
          · rw [hanc m h3] at hDm; cases hDm
          · have := hA.lt m k h3; omega
        rw [← envA i fun m' o'' h3 h5 h6 => by have := hone m m' o' o'' i hm h5 hd h6; omega]
        exact hE i (nocopy m o' i hm hd (.inl h0))
      · rw [← envA i fun m' o'' h3 h5 h6 => hno ⟨m', o'', h5, h6⟩]
        refine hE i ?_
        cases hc : copyB P all as k i all 0 with
        | false => rfl
        | true => obtain ⟨m', o'', a1, a2, _⟩ := copy_at.1 hc; exact (hno ⟨m', o'', a1, a2⟩).elim
    · intro m o' i hm hd h0 hJ hw
      rw [hH2]
      by_cases hmk : m = k
      · have e := same hm hmk
        subst e; subst hmk
        rw [hputd _ i hd, hlast i hd, hnext]
        show RV E' st'.H (((tr m).set o'.dst v).env i) x
        rw [hd, set_env_at]; exact k3
      · have hDm := (with_iff.1 hw).resolve_right hmk
        have hne : o.dst ≠ some i := fun e => hmk (hone m k o' o i hm q1 hd e)
        rw [hput _ i hne]
        have hor : m < k ∧ (floatB (classB P all as m o') = false ∨ m ∈ nthL as k) := by
          by_cases h3 : classB P all as m o' = 3
          · have hlt : m < k := by
              rcases Nat.lt_trichotomy m k with h | h | h
              · exact h
              · exact (hmk h).elim
              · have := hal m o' hm h3 hJ hDm k o q1 h (by omega); rw [hDk] at this; cases this
            exact ⟨hlt, .inr (aside m o' hm h3 hlt)⟩
          · rcases side m o' hm h0 h3 with h4 | h4 | h4
            · exact (hmk h4).elim
            · exact ⟨hA.lt k m h4, .inr h4⟩
            · rw [notD m h4] at hDm; cases hDm
        rw [envB i fun m' o'' h3 h5 h6 => by have := hone m m' o' o'' i hm h5 hd h6; omega]
        exact hE i (nocopy m o' i hm hd hor.2)
structure ResB (P : Program) (S : Sc) (w0 : World) (all : List Oper) (nb : Nat) (Sx : Sc) (wx : World) (J : Nat → Option Nat) : Prop where
  out : ∀ E' H' nx' w', (∀ id o, H' id = some o → o.rw = false → id < nb) → RepH Sx wx E' H' nx' w' → RepH S w0 (E'.wim (keepIm E' H')) H' nx' w' ∧ ∀ j b, J j = some b → keepIm E' H' none b = none
  at_ : ∀ j b, J j = some b → (∃ o t z c tt, all[j]? = some o ∧ o.op = .alloc t ∧ zeroJ P t = some z ∧ (∀ E H, RCs E H z c.toList) ∧ wx.heap[b]? = some (.cells c tt (0, 0))) ∧ ¬ Sx b ∧ w0.heap.size ≤ b ∧ ∀ e, Sx.im0 e b = none
  inj : ∀ i j b, J i = some b → J j = some b → i = j
  nil : (∀ j, J j = none) → Sx = S ∧ wx = w0
  big : w0.heap.size ≤ wx.heap.size
theorem ResB.init (hJ : ∀ j, J j = none) : ResB P S w0 all nb S w0 J where
  out E' H' nx' w' _ h := ⟨(h.untight h.tight fun id o hi _ => by
    rcases Nat.lt_or_ge id nx' with h1 | h1
    · exact h1
    · rw [h.fresh id h1] at hi; cases hi).1, fun j b h => by rw [hJ] at h; cases h⟩
  at_ j b h := by rw [hJ] at h; cases h
  inj i j b h := by rw [hJ] at h; cases h
  nil _ := ⟨rfl, rfl⟩
  big := Nat.le_refl _
theorem RepH.blk_lt (h : RepH S w0 E H nx w) {id : Nat} {o : JObj} (hi : H id = some o) (hr : o.rw = true) (hp : 0 < (E.φ id).room) : (E.φ id).blk < w.heap.size := by
  obtain ⟨us, _, hb⟩ := ObjOK_iff.1 (h.obj id o hi)
  rcases hb with ⟨_, h0⟩ | hb
  · omega
  · unfold Blk at hb; rw [if_pos hr] at hb
    obtain ⟨_, _, _, _, hg, _⟩ := hb
    exact lt_of_get hg
theorem put_nth {o : Oper} {x : Value} {i : Nat} (hi : o.dst ≠ some i) : (a.put o.dst x).tmps.getD i undef = a.tmps.getD i undef := by
  cases hd : o.dst with
  | none => rfl
  | some d =>
    rw [hd] at hi
    show (a.tmps.setIfInBounds d x).getD i undef = _
    rw [Array.getD_eq_getD_getElem?, Array.getElem?_setIfInBounds_ne (fun e => hi (by rw [e])), ← Array.getD_eq_getD_getElem?]
theorem put_nthd {o : Oper} {x : Value} {d : Nat} (hd : o.dst = some d) (hlt : d < a.tmps.size) : (a.put o.dst x).tmps.getD d undef = x := by
  rw [hd]
  show (a.tmps.setIfInBounds d x).getD d undef = _
  rw [Array.getD_eq_getD_getElem?, Array.getElem?_setIfInBounds_self_of_lt hlt]; rfl
theorem brisk_alloc {Sx : Sc} {wx : World} {p : Nat} (htr : ∀ k, k < all.length → StepB P C all as nb k (tr k) (tr (k + 1))) (hnb : nb ≤ (tr 0).nx) {k : Nat} {o : Oper} (hone : DstOne all) (hD : ∀ j, D j = true → ∀ m ∈ nthL as j, D m = true) (hops : ops.toList = all)
    (hdst : all.all (dstOk n) = true) (hres : ResB P S w0 all nb Sx wx J) (hrel : RelB P Sx wx all as tr n J D a w E p) (hk : all[k]? = some o) (hDk : D k = false) (h3 : classB P all as k o = 3) :
    wpOp P ops Q k (fun a' w' => ∃ J' Sy wy E' p', ResB P S w0 all nb Sy wy J' ∧ RelB P Sy wy all as tr n J' (with_ D k) a' w' E' p') a w := by
  obtain ⟨t, d, hop, hd, hgn, _⟩ := class_alloc h3
  have ho : ops[k]? = some o := by rw [← Array.getElem?_toList, hops]; exact hk
  obtain ⟨z, hz, htr1, hnb1, hown⟩ := alloc_run htr hk h3 hop
  obtain ⟨i, zv, hi, hzv, hzr⟩ := zeroJ_ok hz
  have hJk : J k = none := by
    cases h : J k with
    | none => rfl
    | some b => have := (hrel.res k b h).1; rw [hDk] at this; cases this
  have hpk : p ≤ k := by
    have := hrel.st k o hk (by omega) hJk
    rw [hDk] at this
    rcases Nat.lt_or_ge k p with h | h
    · cases this.2 h
    · exact h
  have hdo : d < a.tmps.size := by rw [hrel.size]; exact dstOk_ok (List.all_eq_true.1 hdst o (List.mem_of_getElem? hk)) d hd
  have hg := hrel.rep.grow (.cells zv.cells t (0, 0))
  have hnp : nb ≤ (tr p).nx := Nat.le_trans hnb (by have := trb_nx htr p 0 (by have := hrel.le; omega); rwa [Nat.zero_add] at this)
  have hJ' : ∀ {j b}, upd J k (some w.heap.size) j = some b → (j = k ∧ b = w.heap.size) ∨ (j ≠ k ∧ J j = some b) := fun {j b} h => by
    by_cases e : j = k
    · subst e; rw [upd_same] at h; cases h; exact .inl ⟨rfl, rfl⟩
    · rw [upd_ne _ _ e] at h; exact .inr ⟨e, h⟩
  have hJn : ∀ {j}, upd J k (some w.heap.size) j = none → j ≠ k ∧ J j = none := fun {j} h => by
    by_cases e : j = k
    · subst e; rw [upd_same] at h; cases h
    · rw [upd_ne _ _ e] at h; exact ⟨e, h⟩
  have hwx : ∀ {j b}, J j = some b → b < wx.heap.size := fun {j b} h => by
    obtain ⟨⟨_, _, _, _, _, _, _, _, _, h1⟩, _⟩ := hres.at_ j b h
    exact lt_of_get h1
  have hsz := hrel.rep.keeps.size
  have hold : ∀ b, b < w.heap.size → (w.alloc (.cells zv.cells t (0, 0))).heap[b]? = w.heap[b]? := fun b hb => Go.RowKit.Below.heap_alloc _ _ _ hb
  unfold wpOp
  rw [ho]
  simp only []
  rw [if_pos (show Region.wanted o (yielded ops a.tmps) = true from by unfold Region.wanted; rw [hgn])]
  left
  have hland : Lands P (fun x w'' => x = .pointer (some ⟨w.heap.size, 0, none⟩) ∧ w'' = w.alloc (.cells zv.cells t (0, 0))) ((execOp a.eval o).run P w) := by
    simp only [execOp, hop, Instr.alloc, Sem.run_bind, run_zero hi hzv, Result.andThen_ok, newVar, newRow, run_newObj, Sem.run_pure]; exact ⟨rfl, rfl⟩
  refine hland.upon fun x w'' hx => ?_
  obtain ⟨rfl, rfl⟩ := hx
  refine ⟨upd J k (some w.heap.size), tightS E (tr p).H (tr p).nx, w.alloc (.cells zv.cells t (0, 0)), E, p, ?_, ?_⟩
  · refine ⟨fun E' H' nx' w' hro h => ?_, fun j b hj => ?_, fun i j b hi hj => ?_, fun h => ?_, ?_⟩
    · obtain ⟨u1, u2⟩ := hg.untight h fun id o h1 h2 => Nat.lt_of_lt_of_le (hro id o h1 h2) hnp
      obtain ⟨v1, v2⟩ := hres.out _ H' nx' w' hro u1
      rw [keepIm_keep] at v1 v2
      refine ⟨v1, fun j b hj => ?_⟩
      rcases hJ' hj with ⟨rfl, rfl⟩ | ⟨_, hj⟩
      · refine keepIm_none fun id o h1 h2 h3 e => ?_
        obtain ⟨c, hc⟩ := u2 id o h1 h2 h3
        obtain ⟨_, _, hh⟩ := hrel.rep.imOK _ _ _ hc
        have := lt_of_get hh; omega
      · exact v2 j b hj
    · rcases hJ' hj with ⟨rfl, rfl⟩ | ⟨_, hj⟩
      · refine ⟨⟨o, t, z, zv.cells, t, hk, hop, hz, hzr, by show (w.heap.push _)[w.heap.size]? = _; simp⟩, ?_, by have := hres.big; omega, fun e => ?_⟩
        · rintro ⟨id, o', h1, h2, h3, h4⟩
          have := hrel.rep.blk_lt h1 h2 h3; omega
        · show E.im (some e) w.heap.size = none
          cases hc : E.im (some e) w.heap.size with
          | none => rfl
          | some c => obtain ⟨_, _, hh⟩ := hrel.rep.imOK _ _ _ hc; have := lt_of_get hh; omega
      · obtain ⟨⟨o', t', z', c', tt, q1, q2, q3, q4, q5⟩, q6, q7, q8⟩ := hres.at_ j b hj
        have hb := hwx hj
        refine ⟨⟨o', t', z', c', tt, q1, q2, q3, q4, ?_⟩, ?_, q7, fun e => ?_⟩
        · rw [hold b (by omega), hrel.rep.keeps.block b hb q6]; exact q5
        · rintro ⟨id, o', h1, h2, h3, h4⟩
          rcases (hrel.rep.own id o' h1 h2 h3).1 with h5 | h5
          · rw [h4] at h5; exact q6 h5
          · omega
        · show E.im (some e) b = none
          rw [hrel.rep.im0 e b hb]; exact q8 e
    · rcases hJ' hi with ⟨e1, e2⟩ | ⟨_, hi⟩ <;> rcases hJ' hj with ⟨e3, e4⟩ | ⟨_, hj⟩
      · rw [e1, e3]
      · have := hwx hj; omega
      · have := hwx hi; omega
      · exact hres.inj i j b hi hj
    · have := h k; rw [upd_same] at this; cases this
    · have := hres.big
      show w0.heap.size ≤ (w.heap.push _).size
      rw [Array.size_push]; omega
  · refine ⟨by cases o.dst <;> exact hrel.defers, by rw [put_size]; exact hrel.size, hrel.le, fun j o' hj h2 hJj => ?_, hg.tight, fun j o' hj hj3 hJj hw m o2 hm hmj h0 => ?_, fun j b hj => ?_, fun i hi => ?_, fun m o' i hm hmi h0 hJm hw => ?_, fun m o' i hm hmi h0 hw => ?_⟩
    · obtain ⟨e1, e2⟩ := hJn hJj
      rw [with_iff, hrel.st j o' hj h2 e2]
      exact ⟨fun h => h.resolve_right e1, .inl⟩
    · obtain ⟨e1, e2⟩ := hJn hJj
      exact with_iff.2 (.inl (hrel.al j o' hj hj3 e2 ((with_iff.1 hw).resolve_right e1) m o2 hm hmj h0))
    · rcases hJ' hj with ⟨rfl, rfl⟩ | ⟨e, hj⟩
      · exact ⟨with_iff.2 (.inr rfl), hpk, o, d, hk, h3, hd, put_nthd hd hdo⟩
      · obtain ⟨r1, r2, o', d', r3, r4, r5, r6⟩ := hrel.res j b hj
        refine ⟨with_iff.2 (.inl r1), r2, o', d', r3, r4, r5, ?_⟩
        rw [put_nth fun e' => e (hone j k o' o d' r3 hk r5 e')]; exact r6
    · have hne : o.dst ≠ some i := fun e => by
        have := (hi k o hk e).1; rw [h3] at this; cases this
      rw [put_nth hne]
      exact hrel.v1 i fun m o' hm hmi => ⟨(hi m o' hm hmi).1, (with_false (hi m o' hm hmi).2).1⟩
    · obtain ⟨e1, e2⟩ := hJn hJm
      rw [put_nth fun e => e1 (hone m k o' o i hm hk hmi e)]
      exact hrel.v2 m o' i hm hmi h0 e2 ((with_iff.1 hw).resolve_right e1)
    · have hmk : m ≠ k := fun e => by subst e; rw [hk] at hm; cases hm; omega
      have hDm := (with_iff.1 hw).resolve_right hmk
      obtain ⟨y, d', hop', hd', hah, _⟩ := class_copy h0
      have key : ∀ x, opndV o'.op (a.put o.dst x) = opndV o'.op a := fun x => by
        have key : (a.put o.dst x).eval y = a.eval y := by
          cases y with
          | tmp z =>
            show (a.put o.dst x).tmps.getD z undef = a.tmps.getD z undef
            refine put_nth fun e => ?_
            have := ahead_at (hah z (by simp [tmpsOf])) k o hk e
            rw [Nat.zero_add] at this
            have := hD m hDm k this.2; rw [hDk] at this; cases this
          | _ => cases o.dst <;> rfl
        exact opndV_eq hop' key
      rw [put_nth fun e => hmk (hone m k o' o i hm hk hmi e), key]
      exact hrel.v3 m o' i hm hmi h0 hDm
theorem brisk_claim {Sx : Sc} {wx : World} {p j0 b0 : Nat} (htr : ∀ k, k < all.length → StepB P C all as nb k (tr k) (tr (k + 1))) (hone : DstOne all) (hres : ResB P S w0 all nb Sx wx J) (hrel : RelB P Sx wx all as tr n J D a w E p)
    (hj : J j0 = some b0) (hmin : ∀ j b, J j = some b → j0 ≤ j) (hdone : ∀ (m : Nat) (o : Oper), all[m]? = some o → m < j0 → classB P all as m o ≠ 0 → D m = true) :
    ∃ J' Sy wy E', ResB P S w0 all nb Sy wy J' ∧ RelB P Sy wy all as tr n J' D a w E' (j0 + 1) := by
  obtain ⟨hDj, hpj, o, d, ho, h3, hd, hat⟩ := hrel.res j0 b0 hj
  have hlt : j0 < all.length := (List.getElem?_eq_some_iff.1 ho).1
  obtain ⟨⟨o', t, z, c, tt, q1, hop, hz, hzr, q5⟩, q6, q7, q8⟩ := hres.at_ j0 b0 hj
  rw [ho] at q1; cases q1
  obtain ⟨z', hz', htr1, hnb1, hown⟩ := alloc_run htr ho h3 hop
  rw [hz] at hz'; cases hz'
  have hheap := trb_heap htr (j0 - p) p (by omega) (fun m o' h1 h2 h4 => by
    rcases Nat.lt_or_ge (classB P all as m o') 2 with h5 | h5
    · exact h5
    · have hJm : J m = none := by
        cases hJ : J m with
        | none => rfl
        | some b => have := hmin m b hJ; omega
      have := (hrel.st m o' h4 h5 hJm).1 (hdone m o' h4 (by omega) (by omega)); omega)
  rw [show p + (j0 - p) = j0 by omega] at hheap
  rw [hheap.1, hheap.2] at htr1 hown
  rw [hheap.2] at hnb1
  have hro : ∀ id o, (tr p).H id = some o → o.rw = false → id < nb := fun id o h1 h2 => by
    rcases Nat.lt_or_ge id nb with h4 | h4
    · exact h4
    · rcases Nat.lt_or_ge id (tr p).nx with h5 | h5
      · have := ownJ_at hown id o h4 (by omega) h1; rw [h2] at this; cases this
      · rw [hrel.rep.fresh id h5] at h1; cases h1
  obtain ⟨hr2, hkn⟩ := hres.out E (tr p).H (tr p).nx w hro hrel.rep
  have hwx : ∀ {j b}, J j = some b → b < wx.heap.size := fun {j b} h => by
    obtain ⟨⟨_, _, _, _, _, _, _, _, _, h1⟩, _⟩ := hres.at_ j b h
    exact lt_of_get h1
  have him : ∀ {j b}, J j = some b → ∀ esc, (E.wim (keepIm E (tr p).H)).im esc b = none := fun {j b} h esc => by
    cases esc with
    | none => exact hkn j b h
    | some e =>
      show keepIm E (tr p).H (some e) b = none
      rw [keepIm_some, hrel.rep.im0 e b (hwx h)]
      exact (hres.at_ j b h).2.2.2 e
  have hnot : ∀ {j b}, J j = some b → ∀ id x, (tr p).H id = some x → x.rw = true → 0 < (E.φ id).room → (E.φ id).blk ≠ b := fun {j b} h id x h1 h2 h4 e => by
    rcases (hrel.rep.own id x h1 h2 h4).1 with h5 | h5
    · rw [e] at h5; exact (hres.at_ j b h).2.1 h5
    · have := hwx h; omega
  have hget : ∀ {j b}, J j = some b → w.heap[b]? = wx.heap[b]? := fun {j b} h => hrel.rep.keeps.block b (hwx h) (hres.at_ j b h).2.1
  have hadd := hr2.add (w' := w) ⟨b0, 0, c.size⟩ (.box z true) rfl c.toList (hzr _ _) rfl rfl rfl rfl (fun _ _ => rfl)
    (.inr (by
      unfold Blk; rw [if_pos rfl]
      refine ⟨c, tt, 0, 0, by rw [hget hj]; exact q5, .inl (Nat.le_refl _), by simp, by simp, ?_⟩
      show (c.toList.drop 0).take c.toList.length = c.toList
      rw [List.drop_zero]; exact List.take_length))
    (fun _ => ⟨.inr q7, him hj, hnot hj⟩)
  have hgo := goes_add hr2 ⟨b0, 0, c.size⟩ (some (.box z true))
  have hcar : ∀ v u, RV E (tr p).H v u → RV ((E.wim (keepIm E (tr p).H)).add ⟨b0, 0, c.size⟩) (tr (j0 + 1)).H v u := fun v u h => by
    have := RV_ren hgo (lvl_RV (I := keepIm E (tr p).H) keepIm_lvl h)
    rw [ren_some] at this
    rw [htr1]; exact this
  have hrep3 : RepH S w0 ((E.wim (keepIm E (tr p).H)).add ⟨b0, 0, c.size⟩) (tr (j0 + 1)).H (tr (j0 + 1)).nx w := by rw [htr1]; exact hadd
  let J' : Nat → Option Nat := upd J j0 none
  have hJ' : ∀ {j b}, J' j = some b → j ≠ j0 ∧ J j = some b := fun {j b} h => by
    by_cases e : j = j0
    · subst e; have h : upd J j none j = some b := h; rw [upd_same] at h; cases h
    · have h : upd J j0 none j = some b := h; rw [upd_ne _ _ e] at h; exact ⟨e, h⟩
  have hJn : ∀ {j}, J' j = none → j ≠ j0 → J j = none := fun {j} h e => by
    have h : upd J j0 none j = none := h; rwa [upd_ne _ _ e] at h
  have main : ∀ (Sy : Sc) (wy : World), RepH Sy wy ((E.wim (keepIm E (tr p).H)).add ⟨b0, 0, c.size⟩) (tr (j0 + 1)).H (tr (j0 + 1)).nx w → RelB P Sy wy all as tr n J' D a w ((E.wim (keepIm E (tr p).H)).add ⟨b0, 0, c.size⟩) (j0 + 1) := fun Sy wy hrep => by
    refine ⟨hrel.defers, hrel.size, hlt, fun j o' hj' h2 hJj => ?_, hrep, fun j o' hj' h3' hJj hDj' m o2 hm hmj h0 => ?_, fun j b hJb => ?_, fun i hi => hcar _ _ (hrel.v1 i hi), fun m o' i hm hmi h0 hJm hDm => ?_, hrel.v3⟩
    · by_cases e : j = j0
      · subst e; exact ⟨fun _ => Nat.lt_succ_self _, fun _ => hDj⟩
      · rw [hrel.st j o' hj' h2 (hJn hJj e)]
        constructor
        · intro h; omega
        · intro h; exact (hrel.st j o' hj' h2 (hJn hJj e)).1 (hdone j o' hj' (by omega) (by omega))
    · by_cases e : j = j0
      · subst e; exact hdone m o2 hm hmj h0
      · exact hrel.al j o' hj' h3' (hJn hJj e) hDj' m o2 hm hmj h0
    · obtain ⟨e, hJb⟩ := hJ' hJb
      obtain ⟨r1, r2, r3⟩ := hrel.res j b hJb
      exact ⟨r1, by have := hmin j b hJb; omega, r3⟩
    · by_cases e : m = j0
      · subst e
        rw [ho] at hm; cases hm
        rw [hd] at hmi; cases hmi
        rw [hat]
        have he : (tr all.length).env d = (tr (m + 1)).env d := by
          have := trb_env htr (all.length - (m + 1)) (m + 1) (by omega) d (fun m' o' h1 h2 h4 h5 => by have := hone m m' o o' d ho h4 hd h5; omega)
          rwa [show m + 1 + (all.length - (m + 1)) = all.length by omega] at this
        rw [he, htr1]
        show RV _ _ (((tr m).set o.dst (.ptr (tr p).nx 0)).env d) _
        rw [hd, set_env_at]
        refine ⟨?_, _, rfl, rfl, fun _ => ?_⟩
        · show (tr p).nx < (E.wim (keepIm E (tr p).H)).nx + 1
          rw [hr2.nx_]; exact Nat.lt_succ_self _
        · have : ((E.wim (keepIm E (tr p).H)).add ⟨b0, 0, c.size⟩).φ (tr p).nx = ⟨b0, 0, c.size⟩ := by rw [← hr2.nx_]; exact upd_same _ _ _
          rw [this]
      · exact hcar _ _ (hrel.v2 m o' i hm hmi h0 (hJn hJm e) hDm)
  by_cases hall : ∀ j, J' j = none
  · exact ⟨J', S, w0, _, ResB.init hall, main S w0 hrep3⟩
  · refine ⟨J', _, w, _, ⟨fun E' H' nx' w' hro' h => ?_, fun j b hJb => ?_, fun i j b hi hj' => hres.inj i j b (hJ' hi).2 (hJ' hj').2, fun h => (hall h).elim, Nat.le_trans hres.big hrel.rep.keeps.size⟩, main _ w hrep3.tight⟩
    · obtain ⟨u1, u2⟩ := hrep3.untight h fun id o h1 h2 => by
        have := hro' id o h1 h2
        rw [htr1]
        show id < (tr p).nx + 1
        omega
      refine ⟨u1, fun j b hJb => ?_⟩
      refine keepIm_none fun id o h1 h2 h4 e => ?_
      obtain ⟨c', hc⟩ := u2 id o h1 h2 h4
      rw [e] at hc
      have := him (hJ' hJb).2 none
      have hc : (E.wim (keepIm E (tr p).H)).im none b = some c' := hc
      rw [this] at hc; cases hc
    · obtain ⟨e, hJb⟩ := hJ' hJb
      obtain ⟨⟨o', t', z', c', tt', r1, r2, r3, r4, r5⟩, r6, r7, r8⟩ := hres.at_ j b hJb
      refine ⟨⟨o', t', z', c', tt', r1, r2, r3, r4, by rw [hget hJb]; exact r5⟩, ?_, r7, fun e => him hJb (some e)⟩
      rintro ⟨id, x, h1, h2, h4, h5⟩
      by_cases hid : id = (tr p).nx
      · subst hid
        have hφ : ((E.wim (keepIm E (tr p).H)).add ⟨b0, 0, c.size⟩).φ (tr p).nx = ⟨b0, 0, c.size⟩ := by rw [← hr2.nx_]; exact upd_same _ _ _
        rw [hφ] at h5
        have h5 : b0 = b := h5
        subst h5
        exact e (hres.inj j j0 b0 hJb hj)
      · have hφ : ((E.wim (keepIm E (tr p).H)).add ⟨b0, 0, c.size⟩).φ id = E.φ id := upd_ne _ _ (by rw [hr2.nx_]; exact hid)
        rw [hφ] at h4 h5
        rw [htr1] at h1
        have h1 : upd (tr p).H (tr p).nx (some (.box z true)) id = some x := h1
        rw [upd_ne _ _ hid] at h1
        exact hnot hJb id x h1 h2 h4 h5
theorem brisk_norm (htr : ∀ k, k < all.length → StepB P C all as nb k (tr k) (tr (k + 1))) (hone : DstOne all) : ∀ (fuel : Nat) (J : Nat → Option Nat) (Sx : Sc) (wx : World) (E : En) (p : Nat), all.length - p ≤ fuel → ResB P S w0 all nb Sx wx J → RelB P Sx wx all as tr n J D a w E p →
    ∃ J' Sy wy E' p', ResB P S w0 all nb Sy wy J' ∧ RelB P Sy wy all as tr n J' D a w E' p' ∧ ∀ j b, J' j = some b → (∀ i c, J' i = some c → j ≤ i) → ∃ m o, all[m]? = some o ∧ m < j ∧ classB P all as m o ≠ 0 ∧ D m = false := by
  intro fuel
  induction fuel with
  | zero =>
    intro J Sx wx E p hf hres hrel
    refine ⟨J, Sx, wx, E, p, hres, hrel, fun j b hj _ => ?_⟩
    obtain ⟨_, h1, o, d, h2, _⟩ := hrel.res j b hj
    have := (List.getElem?_eq_some_iff.1 h2).1; omega
  | succ fuel ih =>
    intro J Sx wx E p hf hres hrel
    rcases Classical.em (∀ j b, J j = some b → (∀ i c, J i = some c → j ≤ i) → ∃ m o, all[m]? = some o ∧ m < j ∧ classB P all as m o ≠ 0 ∧ D m = false) with h | h
    · exact ⟨J, Sx, wx, E, p, hres, hrel, h⟩
    · have : ∃ j b, J j = some b ∧ (∀ i c, J i = some c → j ≤ i) ∧ ¬ ∃ m o, all[m]? = some o ∧ m < j ∧ classB P all as m o ≠ 0 ∧ D m = false :=
        Classical.byContradiction fun hn => h fun j b h1 h2 => Classical.byContradiction fun h3 => hn ⟨j, b, h1, h2, h3⟩
      obtain ⟨j, b, h1, h2, h3⟩ := this
      have hlt := (hrel.res j b h1).2
      obtain ⟨hpj, o, d, ho, _⟩ := hlt
      have hl := (List.getElem?_eq_some_iff.1 ho).1
      obtain ⟨J', Sy, wy, E', k1, k2⟩ := brisk_claim htr hone hres hrel h1 h2 fun m o hm hmj h0 => by
        cases hDm : D m with
        | true => rfl
        | false => exact (h3 ⟨m, o, hm, hmj, h0, hDm⟩).elim
      exact ih J' Sy wy E' (j + 1) (by omega) k1 k2
theorem min_ex (hne : ∃ j b, J j = some b) : ∃ j b, J j = some b ∧ ∀ i c, J i = some c → j ≤ i := by
  obtain ⟨j, b, h⟩ := hne
  induction j using Nat.strongRecOn generalizing b with
  | ind j ih =>
    rcases Classical.em (∀ i c, J i = some c → j ≤ i) with h1 | h1
    · exact ⟨j, b, h, h1⟩
    · have : ∃ i c, J i = some c ∧ i < j := Classical.byContradiction fun hn => h1 fun i c hi => by
        rcases Nat.lt_or_ge i j with h2 | h2
        · exact (hn ⟨i, c, hi, h2⟩).elim
        · exact h2
      obtain ⟨i, c, h2, h3⟩ := this
      exact ih i h3 c h2
end
theorem brisk_core (hN : CallNat C0 C) (hC : CallOK P C) (hdst : ops.toList.all (dstOk n) = true)
    (hQ : ∀ E' st' a' w', K st' = some r → Rep S w0 E' st' a' w' → a'.tmps.size = n → Q .normal a' w') (hbr : briskB P ops.toList = true) (hJ : briskR P C0 ops.toList st K = some r) (hR : Rep S w0 E st a w) (hn : a.tmps.size = n) : wpAny P .any ops Q ops.size (Array.replicate ops.size false) a { w with drawn := w.drawn + 1 } := by
  unfold briskB at hbr
  unfold briskR at hJ
  cases has : ancsJ ops.toList [] with
  | none => rw [has] at hbr; cases hbr
  | some as =>
    rw [has] at hbr hJ
    simp only [] at hbr hJ
    rw [Bool.and_eq_true] at hbr
    obtain ⟨hA, hAl⟩ := ancs_ok (ops := ops.toList) has (anc_nil _) (by simp)
    have hone := dst_one (nodupB_iff hbr.1)
    obtain ⟨tr, t0, htr, hK⟩ := brisk_run (P := P) (all := ops.toList) (as := as) (nb := st.nx) hN ops.toList 0 st (by simp) (fun k o h => by have := (brisk_class hbr.2 k o h).1; rwa [Nat.zero_add] at this) hJ
    rw [Nat.zero_add] at hK htr
    have htr : ∀ k, k < ops.toList.length → StepB P C ops.toList as st.nx k (tr k) (tr (k + 1)) := fun k hk => htr k (Nat.zero_le _) hk
    have hsz : ops.toList.length = ops.size := by simp
    have conv : ∀ {listed : Array Bool} {k : Nat}, listed.size = ops.size → k < ops.size → listed.getD k true = listed.getD k false := fun {listed k} hs hk => by
      simp [show k < listed.size from by omega]
    have noready : ∀ (listed : Array Bool), listed.size = ops.size → Region.ready .any ops listed = [] → ∀ k, k < ops.size → listed.getD k false = true := by
      intro listed hs hr k
      induction k using Nat.strongRecOn with
      | ind k ih =>
        intro hk
        cases hl : listed.getD k false with
        | true => rfl
        | false =>
          have hm : k ∈ Region.ready .any ops listed := by
            refine mem_ready.2 ⟨by rw [conv hs hk]; exact hl, ops[k], by simp [hk], fun e he hb => ?_⟩
            have ho : ops.toList[k]? = some ops[k] := by simp [hk]
            have hed : e.on ∈ edgesOf ops[k] := by
              unfold edgesOf
              refine List.mem_filterMap.2 ⟨e, by simpa using he, by rw [hb]; rfl⟩
            have hlt := hA.lt k e.on (hA.edge k _ ho (by omega) e.on hed)
            exact ih e.on hlt (by omega)
          rw [hr] at hm; cases hm
    let Rel : (Nat → Bool) → Act → World → Prop := fun D a w => ∃ J Sx wx E p, ResB P S w0 ops.toList st.nx Sx wx J ∧ RelB P Sx wx ops.toList as tr n J D a w E p
    have hcl3 := fun (m : Nat) (o : Oper) (h : ops.toList[m]? = some o) => by have := brisk_class hbr.2 m o h; simp only [Nat.zero_add] at this; exact this
    have hlt : ∀ {m : Nat} {o : Oper}, ops.toList[m]? = some o → m < ops.size := fun h => by have := (List.getElem?_eq_some_iff.1 h).1; omega
    have done : ∀ (listed : Array Bool) (a : Act) (w : World), Rel (fun k => listed.getD k false) a w → (∀ k, k < ops.size → listed.getD k false = true) → Q .normal a w := by
      rintro listed a w ⟨J0, Sx0, wx0, E0, p0, hres0, hrel0⟩ hall
      obtain ⟨J, Sx, wx, E, p, hres, hrel, hnf⟩ := brisk_norm htr hone _ J0 Sx0 wx0 E0 p0 (Nat.le_refl _) hres0 hrel0
      have hJ : ∀ j, J j = none := fun j => by
        cases hj : J j with
        | none => rfl
        | some b =>
          obtain ⟨j1, b1, h1, h2⟩ := min_ex ⟨j, b, hj⟩
          obtain ⟨m, o, h3, _, _, h4⟩ := hnf j1 b1 h1 h2
          have := hall m (hlt h3)
          have h4 : listed.getD m false = false := h4
          rw [this] at h4; cases h4
      obtain ⟨e1, e2⟩ := hres.nil hJ
      subst e1 e2
      have hpe := trb_heap htr (ops.toList.length - p) p (by have := hrel.le; omega) (fun m o h3 h4 h5 => by
          rcases Nat.lt_or_ge (classB P ops.toList as m o) 2 with h6 | h6
          · exact h6
          · have := (hrel.st m o h5 h6 (hJ m)).1 (hall m (hlt h5)); omega)
      rw [show p + (ops.toList.length - p) = ops.toList.length by have := hrel.le; omega] at hpe
      have hv4 := copy_ok (q := ops.toList.length) htr (fun j _ m hm => hall m (by
        have h1 := hA.lt j m hm
        rcases Nat.lt_or_ge j as.length with h2 | h2
        · omega
        · rw [nthL_ge h2] at hm; cases hm)) hrel (fun j b h => by rw [hJ] at h; cases h)
      refine hQ E (tr ops.toList.length) a w hK { (show RepH Sx wx E (tr ops.toList.length).H (tr ops.toList.length).nx w by rw [hpe.1, hpe.2]; exact hrel.rep) with env := fun i => ?_, defers := hrel.defers } hrel.size
      rw [hpe.1]
      rcases Classical.em (∃ (m : Nat) (o' : Oper), ops.toList[m]? = some o' ∧ o'.dst = some i) with ⟨m, o', hm, hd⟩ | hno
      · by_cases h0 : classB P ops.toList as m o' = 0
        · exact hv4 m o' i (by have := hlt hm; omega) hm hd h0 (hall m (hlt hm))
        · exact hrel.v2 m o' i hm hd h0 (hJ m) (hall m (hlt hm))
      · have := trb_env htr ops.toList.length 0 (by omega) i (fun m'' o'' _ _ h5 h6 => hno ⟨m'', o'', h5, h6⟩)
        rw [Nat.zero_add] at this; rw [this]
        exact hrel.v1 i fun m'' o'' h5 h6 => (hno ⟨m'', o'', h5, h6⟩).elim
    have run : ∀ (fuel : Nat) (listed : Array Bool) (a : Act) (w : World), unl listed ops.size ≤ fuel → listed.size = ops.size → (∀ k o, ops.toList[k]? = some o → listed.getD k false = true → ∀ m ∈ edgesOf o, listed.getD m false = true) →
        Rel (fun k => listed.getD k false) a w → wpAny P .any ops Q fuel listed a w := by
      intro fuel
      induction fuel with
      | zero =>
        intro listed a w hf hs hcl hI
        have hall : ∀ k, k < ops.size → listed.getD k false = true := fun k hk => by rw [← conv hs hk]; exact unl_none (Nat.le_zero.1 hf) k hk
        refine ⟨?_, done listed a w hI hall⟩
        cases hr : Region.ready .any ops listed with
        | nil => rfl
        | cons j l =>
          have hm : j ∈ Region.ready .any ops listed := by rw [hr]; simp
          obtain ⟨h1, o, h2, _⟩ := mem_ready.1 hm
          have hj : j < ops.size := (Array.getElem?_eq_some_iff.1 h2).1
          rw [conv hs hj, hall j hj] at h1; cases h1
      | succ fuel ih =>
        intro listed a w hf hs hcl0 hI
        refine ⟨fun hr => done listed a w hI (noready listed hs hr), fun j hj => ?_⟩
        obtain ⟨h1, o, h2, h3⟩ := mem_ready.1 hj
        have hjs : j < ops.size := (Array.getElem?_eq_some_iff.1 h2).1
        have ho : ops.toList[j]? = some o := by rw [Array.getElem?_toList]; exact h2
        have hDj : listed.getD j false = false := by rw [← conv hs hjs]; exact h1
        have hed : ∀ m ∈ edgesOf o, listed.getD m false = true := fun m hm => by
          unfold edgesOf at hm
          obtain ⟨e, he, heq⟩ := List.mem_filterMap.1 hm
          cases hb : Region.binds .any e with
          | false => rw [hb] at heq; cases heq
          | true => rw [hb] at heq; cases heq; exact h3 e (by simpa using he) hb
        have hfuel : unl (listed.setIfInBounds j true) ops.size ≤ fuel := by
          have := unl_set h1 ops.size
          rw [if_pos hjs] at this; omega
        have hset : ∀ m, (listed.setIfInBounds j true).getD m false = with_ (fun k => listed.getD k false) j m := fun m => by
          by_cases hm : j = m
          · subst hm
            rw [with_iff.2 (.inr rfl)]; simp [show j < listed.size from by omega]
          · rw [getD_set_ne false hm]
            cases hw : listed.getD m false with
            | true => exact (with_iff.2 (.inl hw)).symm
            | false =>
              cases hww : with_ (fun k => listed.getD k false) j m with
              | false => rfl
              | true => rcases with_iff.1 hww with h | h
                        · have h : listed.getD m false = true := h
                          rw [hw] at h; cases h
                        · exact (hm h.symm).elim
        have hcl := hA.closed (D := fun k => listed.getD k false = true) hAl (fun k o' ho' hk m hm => hcl0 k o' ho' hk m hm)
        have hanc : ∀ m ∈ nthL as j, listed.getD m false = true := fun m hm => by
          rcases hA.from_ j o ho (by omega) m hm with h4 | ⟨k, h4, h5⟩
          · exact hed m h4
          · exact hcl k (hed k h4) m h5
        have hedges : ∀ k o', ops.toList[k]? = some o' → (listed.setIfInBounds j true).getD k false = true → ∀ m ∈ edgesOf o', (listed.setIfInBounds j true).getD m false = true := fun k o' ho' hk m hm => by
          rw [hset] at hk ⊢
          rcases with_iff.1 hk with hk | rfl
          · exact with_iff.2 (.inl (hcl0 k o' ho' hk m hm))
          · rw [ho] at ho'; cases ho'; exact with_iff.2 (.inl (hed m hm))
        obtain ⟨J0, Sx0, wx0, E0, p0, hres0, hrel0⟩ := hI
        obtain ⟨J, Sx, wx, E1, p, hres, hrel, hnf⟩ := brisk_norm htr hone _ J0 Sx0 wx0 E0 p0 (Nat.le_refl _) hres0 hrel0
        have hD : ∀ k, listed.getD k false = true → ∀ m ∈ nthL as k, listed.getD m false = true := fun k hk m hm => hcl k hk m hm
        by_cases h3 : classB P ops.toList as j o = 3
        · refine wpOp_mono (fun a' w' hrel => ih _ a' w' hfuel (by simp [hs]) hedges ?_) (brisk_alloc htr (by rw [t0]; exact Nat.le_refl _) hone hD rfl hdst hres hrel ho hDj h3)
          rw [show (fun k => (listed.setIfInBounds j true).getD k false) = with_ (fun k => listed.getD k false) j from funext hset]; exact hrel
        · refine wpOp_mono (fun a' w' hrel => ih _ a' w' hfuel (by simp [hs]) hedges ?_) (brisk_step htr hA hone hbr.2 hD hC rfl hdst hrel (by omega) hDj hanc fun o' ho' => ?_)
          · rw [show (fun k => (listed.setIfInBounds j true).getD k false) = with_ (fun k => listed.getD k false) j from funext hset]
            obtain ⟨E', p', hrel⟩ := hrel
            exact ⟨J, Sx, wx, E', p', hres, hrel⟩
          · rw [ho] at ho'; cases ho'
            refine ⟨h3, ?_⟩
            by_cases h0 : classB P ops.toList as j o = 0 ∧ o.guard = none ∧ moveB o.op = true
            · exact .inr h0
            · left
              intro i b hi
              obtain ⟨i0, b0, g1, g2⟩ := min_ex ⟨i, b, hi⟩
              obtain ⟨m, om, g3, g4, g5, g6⟩ := hnf i0 b0 g1 g2
              obtain ⟨g7, _, oi, di, g8, g9, _⟩ := hrel.res i0 b0 g1
              have g10 := g2 i b hi
              rcases Nat.lt_trichotomy j i0 with h | h | h
              · omega
              · subst h
                have g7 : listed.getD j false = true := g7
                rw [hDj] at g7; cases g7
              · have := alloc_at ((hcl3 i0 oi g8).2.2.1 g9) j o ho (by omega)
                simp only [Nat.zero_add] at this
                rcases this with ⟨h5, h6⟩ | h5
                · rcases float_iff.1 h5 with h5 | h5
                  · exact (h0 ⟨h5, h6⟩).elim
                  · exact (h3 h5).elim
                · have := non_at h5 m om g3 (by omega) (by rw [Nat.zero_add]; exact g5)
                  rw [Nat.zero_add] at this
                  have := hanc m this
                  have g6 : listed.getD m false = false := g6
                  rw [this] at g6; cases g6
    have hR' : RepH S w0 E st.H st.nx { w with drawn := w.drawn + 1 } := hR.toRepH.heap (w' := { w with drawn := w.drawn + 1 }) rfl rfl rfl rfl
    have hinit : RelB P S w0 ops.toList as tr n (fun _ => none) (fun k => (Array.replicate ops.size false).getD k false) a { w with drawn := w.drawn + 1 } E 0 :=
      ⟨hR.defers, hn, Nat.zero_le _, fun j o _ _ _ => ⟨fun h => (rep_not j h).elim, fun h => (Nat.not_lt_zero _ h).elim⟩, by rw [t0]; exact hR', fun j o _ _ _ h => (rep_not j h).elim, fun j b h => (by cases h), fun i _ => by rw [t0]; exact hR.env i, fun m o i _ _ _ _ hD => (rep_not m hD).elim, fun m o i _ _ _ hD => (rep_not m hD).elim⟩
    refine (run _ _ _ _ ?_ (by simp) (fun k o _ hk => by rw [rep_false] at hk; cases hk) ⟨fun _ => none, S, w0, E, 0, ResB.init fun _ => rfl, hinit⟩)
    have : ∀ m, unl (Array.replicate ops.size false) m ≤ m := fun m => by
      induction m with
      | zero => exact Nat.le_refl _
      | succ m ih => unfold unl; split <;> omega
    exact this _
theorem brisk_ok (hN : CallNat C0 C) (hC : CallOK P C) (hm : P.follows .mixedOrders = true) {id : Nat} (hdst : ops.toList.all (dstOk n) = true)
    (hQ : ∀ E' st' a' w', K st' = some r → Rep S w0 E' st' a' w' → a'.tmps.size = n → Q .normal a' w') (hbr : briskB P ops.toList = true) (hJ : briskR P C0 ops.toList st K = some r) (hR : Rep S w0 E st a w) (hn : a.tmps.size = n) : (Code.region id ops true).wp P Q a w :=
  wp_region_any hm (brisk_core hN hC hdst hQ hbr hJ hR hn)
end Go.Eng

namespace Go.Eng
variable {R : Type} {P : Program} {S : Sc} {w0 w : World} {E : En} {st : St} {a : Act} {r : R} {H : Nat → Option JObj} {nx : Nat}
def LW (P : Program) (c : Code) (Q : Exit → Act → World → Prop) (a : Act) (w : World) : Prop :=
  ∀ (b : Frame) (k : List Item) (cs : List Frame), ∃ e a' w', Q e a' w' ∧ Arrives P (lone (b.at a (.inLoop c :: k)) cs w) b k cs e a' w'
theorem round_from {c : Code} {Q : Exit → Act → World → Prop} (h : c.wp P (Exit.then (LW P c Q) Q) a w) (b : Frame) (k : List Item) (cs : List Frame) : ∃ e a' w', Q e a' w' ∧ Arrives P (lone (b.at a (.code c :: .inLoop c :: k)) cs w) b k cs e a' w' := by
  obtain ⟨e, a₁, w₁, hq, harr⟩ := h b (.inLoop c :: k) cs
  cases e with
  | normal =>
    obtain ⟨e₂, a₂, w₂, hq₂, harr₂⟩ := hq b k cs
    exact ⟨e₂, a₂, w₂, hq₂, .of_steps harr harr₂⟩
  | exit id => exact ⟨_, a₁, w₁, hq, .pass (x := .inLoop c) rfl (fun _ _ => .inl (by simp)) harr⟩
  | goto l => exact ⟨_, a₁, w₁, hq, .pass (x := .inLoop c) rfl (fun _ _ => .inl (by simp)) harr⟩
  | ret => exact ⟨_, a₁, w₁, hq, .pass (x := .inLoop c) rfl (fun _ _ => .inl (by simp)) harr⟩
  | panic ch => exact ⟨_, a₁, w₁, hq, .pass (x := .inLoop c) rfl (fun _ _ => .inl (by simp)) harr⟩
  | outgrown => exact ⟨_, a₁, w₁, hq, .pass (x := .inLoop c) rfl (fun _ _ => .inl (by simp)) harr⟩
theorem loop_of_round {c : Code} {Q : Exit → Act → World → Prop} (h : c.wp P (Exit.then (LW P c Q) Q) a w) : (Code.loop c).wp P Q a w := fun b k cs =>
  let ⟨e, a', w', q, arr⟩ := round_from h b k cs
  ⟨e, a', w', q, .of_steps (.one step_loop) arr⟩
theorem lw_of_round {c : Code} {Q : Exit → Act → World → Prop} (h : c.wp P (Exit.then (LW P c Q) Q) a w) : LW P c Q a w := fun b k cs =>
  let ⟨e, a', w', q, arr⟩ := round_from h b k cs
  ⟨e, a', w', q, .of_steps (.one step_inLoop) arr⟩
def dstsOk (n : Nat) : Code → Bool
  | .region _ ops _ => ops.toList.all (dstOk n)
  | .seq a b => dstsOk n a && dstsOk n b
  | .cond _ a b => dstsOk n a && dstsOk n b
  | .block _ c | .loop c => dstsOk n c
  | _ => true
theorem RepH.poke (h : RepH S w0 E H nx w) {id : Nat} {o o' : JObj} (hid : H id = some o) (hr : o.rw = true) (hr' : o'.rw = true) (hs : shp (some o') = shp (some o)) (hpos : 0 < (E.φ id).room) {c c' : Array Value} {t : TypeId} {lo hi : Nat}
    (hg : w.heap[(E.φ id).blk]? = some (.cells c t (lo, hi))) (hfz : hi ≤ lo ∨ c.size ≤ lo) (hsz : c'.size = c.size) (hoff : c.size = (E.φ id).off + (E.φ id).room) {us' : List Value} (hk : Cont E H o' us') (hlu : us'.length ≤ (E.φ id).room) (hu : (c'.toList.drop (E.φ id).off).take us'.length = us') :
    RepH S w0 E (upd H id (some o')) nx (setBlk w (E.φ id).blk (.cells c' t (lo, hi))) := by
  have hbl := lt_of_get hg
  have G : Goes some E H E (upd H id (some o')) := goes_put id hid hs
  have hget : ∀ k, k ≠ (E.φ id).blk → (setBlk w (E.φ id).blk (.cells c' t (lo, hi))).heap[k]? = w.heap[k]? := fun k hk => by
    rw [setBlk_get _ _ hbl, if_neg hk]
  have hown := h.own id o hid hr hpos
  have hnew : ∀ i a, upd H id (some o') i = some a → (i = id ∧ a = o') ∨ (i ≠ id ∧ H i = some a) := fun i a ha => by
    by_cases e : i = id
    · subst e; rw [upd_same] at ha; cases ha; exact .inl ⟨rfl, rfl⟩
    · rw [upd_ne _ _ e] at ha; exact .inr ⟨e, ha⟩
  refine ⟨?_, ?_, ?_, ?_, ?_, h.imS, h.imSub, ?_, h.nx_, h.mle, h.pin, h.im0, h.shape_go G⟩
  · refine h.keeps.same rfl rfl rfl (by rw [setBlk_size]; exact Nat.le_refl _) fun k hk hn => hget k fun e => ?_
    subst e
    rcases hown.1 with h1 | h1
    · exact hn h1
    · omega
  · intro i a ha
    rcases hnew i a ha with ⟨rfl, rfl⟩ | ⟨hne, ha⟩
    · refine ObjOK_iff.2 ⟨us', ?_, .inr ?_⟩
      · have := hk.ren G; rwa [JObj.ren_some] at this
      · unfold Blk; rw [hr', if_pos rfl]
        exact ⟨_, t, lo, hi, by rw [setBlk_get _ _ hbl, if_pos rfl], by rw [hsz]; exact hfz, by rw [hsz]; exact hoff, hlu, hu⟩
    · have := (h.obj i a ha).go (w' := setBlk w (E.φ id).blk (.cells c' t (lo, hi))) G (i := i) rfl (fun hra hpa => hget _ fun e => hne (h.apart i id a o ha hid hra hr hpa hpos e))
      rwa [JObj.ren_some] at this
  · intro i a ha hra hpa
    rcases hnew i a ha with ⟨rfl, rfl⟩ | ⟨hne, ha⟩
    · exact hown
    · exact h.own i a ha hra hpa
  · intro i j a b ha hb hra hrb hpa hpb he
    rcases hnew i a ha with ⟨h1, h2⟩ | ⟨hne, ha1⟩ <;> rcases hnew j b hb with ⟨h3, h4⟩ | ⟨hne', hb1⟩
    · rw [h1, h3]
    · subst h1; exact h.apart i j o b hid hb1 hr hrb hpa hpb he
    · subst h3; exact h.apart i j a o ha1 hid hra hr hpa hpb he
    · exact h.apart i j a b ha1 hb1 hra hrb hpa hpb he
  · intro esc b x hx
    obtain ⟨t', fz, hw⟩ := h.imOK esc b x hx
    refine ⟨t', fz, ?_⟩
    rw [hget b fun e => ?_]; · exact hw
    subst e; rw [hown.2 esc] at hx; cases hx
  · intro i hi
    have : i ≠ id := fun e => by subst e; rw [h.fresh i hi] at hid; cases hid
    rw [upd_ne _ _ this]; exact h.fresh i hi
theorem RepH.aside (h : RepH S w0 E H nx w) {b : Nat} {ob : Obj} (hb : b < w.heap.size) (hfree : ∀ id x, H id = some x → x.rw = true → 0 < (E.φ id).room → (E.φ id).blk ≠ b) (him : ∀ lv, E.im lv b = none) (hS : S b ∨ w0.heap.size ≤ b) : RepH S w0 E H nx (setBlk w b ob) where
  keeps := h.keeps.same rfl rfl rfl (by rw [setBlk_size]; exact Nat.le_refl _) fun k hk hn => by
    rw [setBlk_get _ _ hb, if_neg]
    rintro rfl
    rcases hS with h1 | h1
    · exact hn h1
    · omega
  obj id o hi := by
    have := (h.obj id o hi).go (w' := setBlk w b ob) (f := some) (E' := E) (H' := H) ⟨fun id i hn e => by cases e; exact ⟨hn, rfl, .inr rfl⟩, fun _ _ _ h => h⟩ (i := id) rfl (fun hr hp => by rw [setBlk_get _ _ hb, if_neg (hfree id o hi hr hp)])
    rwa [JObj.ren_some] at this
  own := h.own
  apart := h.apart
  imOK esc k c hc := by
    obtain ⟨t, fz, hg⟩ := h.imOK esc k c hc
    refine ⟨t, fz, ?_⟩
    rw [setBlk_get _ _ hb, if_neg]
    · exact hg
    · rintro rfl; rw [him] at hc; cases hc
  imS := h.imS
  imSub := h.imSub
  fresh := h.fresh
  nx_ := h.nx_
  mle := h.mle
  pin := h.pin
  im0 := h.im0
  shape := h.shape
theorem ovr_get {α : Type} {l : List α} {pos : Nat} {v : α} {n : Nat} (hp : pos ≤ l.length) (j : Nat) : (ovrL l pos v n)[j]? = if pos ≤ j ∧ j < pos + n ∧ j < l.length then some v else l[j]? := by
  unfold ovrL
  have h1 : (l.take pos).length = pos := by rw [List.length_take]; omega
  rw [List.getElem?_append, h1]
  by_cases hj : j < pos
  · rw [if_pos hj, if_neg (by omega), List.getElem?_take, if_pos hj]
  · rw [if_neg hj, List.getElem?_append, List.length_replicate, List.getElem?_replicate, List.getElem?_drop]
    by_cases h2 : j - pos < min n (l.length - pos)
    · rw [if_pos h2, if_pos h2, if_pos (by omega)]
    · rw [if_neg h2, if_neg (by omega)]
      by_cases h3 : j < l.length
      · congr 1; omega
      · rw [List.getElem?_eq_none (by omega), List.getElem?_eq_none (by omega)]
theorem ovr_len {α : Type} {l : List α} {pos : Nat} {v : α} {n : Nat} (hp : pos ≤ l.length) : (ovrL l pos v n).length = l.length := by
  unfold ovrL
  rw [List.length_append, List.length_append, List.length_take, List.length_replicate, List.length_drop]; omega
theorem ovr_zero {α : Type} {l : List α} {pos : Nat} {v : α} (hp : pos ≤ l.length) : ovrL l pos v 0 = l := List.ext_getElem? fun j => by rw [ovr_get hp, if_neg (by omega)]
theorem ovr_end {α : Type} {l : List α} {v : α} {n : Nat} : ovrL l l.length v n = l := List.ext_getElem? fun j => by rw [ovr_get (Nat.le_refl _), if_neg (by omega)]
def Loose (S : Sc) (w0 : World) (E : En) (H : Nat → Option JObj) (w : World) (id off L n : Nat) (base : Option Addr) (cap : Nat) : Prop :=
  n ≤ cap ∧ L ≤ off + cap ∧ (cap = 0 ∨ ∃ b o c t lo hi, base = some ⟨b, o, none⟩ ∧ w.heap[b]? = some (.cells c t (lo, hi)) ∧ (hi ≤ lo ∨ c.size ≤ lo) ∧ o + cap ≤ c.size ∧
    ((b = (E.φ id).blk ∧ o = (E.φ id).off + off ∧ off + cap ≤ (E.φ id).room) ∨ ((∀ lv, E.im lv b = none) ∧ (∀ j x, H j = some x → x.rw = true → 0 < (E.φ j).room → (E.φ j).blk ≠ b) ∧ (S b ∨ w0.heap.size ≤ b) ∧ L ≤ off + n)))
theorem Loose.grow {id off L n : Nat} {base : Option Addr} {cap : Nat} (h : Loose S w0 E H w id off L n base cap) (ob : Obj) : Loose S w0 E H (w.alloc ob) id off L n base cap := by
  obtain ⟨h1, h2, h3⟩ := h
  refine ⟨h1, h2, ?_⟩
  rcases h3 with h3 | ⟨b, o, c, t, lo, hi, e, hg, h4⟩
  · exact .inl h3
  · exact .inr ⟨b, o, c, t, lo, hi, e, by rw [Go.RowKit.Below.heap_alloc _ _ _ (lt_of_get hg)]; exact hg, h4⟩
theorem loose_append {argTypes : Array TypeId} {t el ty : TypeId} {kd : IntKind} {v : Int} {x y : Value} {id off L n pos i : Nat} {base : Option Addr} {cap wb : Nat} {l : List Int} {info : TypeInfo} {zv : Value} {tt : TypeId} {fz : Nat × Nat}
    (h : RepH S w0 E (upd H id (some (.row (.one (.int kd)) (ovrL l pos v i) true))) nx w) (hl : l.length = L) (hpos : pos ≤ L) (hn : off + n = pos + i) (hin : inK kd v)
    (h0 : argTypes[0]? = some t) (hu : P.underlying t = some (.slice el)) (e1 : sizeJ P el = 1) (ht : tailJ P argTypes[1]? = true) (hi : P.info? el = some info) (hz : info.zero = some zv) (hzs : zv.cells.size = 1) (hb1 : 1 ≤ info.bytes) (hb : (n + 1) * info.bytes ≤ room)
    (hx : x = .slice base n cap) (hL : Loose S w0 E (upd H id (some (.row (.one (.int kd)) (ovrL l pos v i) true))) w id off L n base cap) (hy : y = .slice (some ⟨wb, 0, none⟩) 1 1) (hwb : w.heap[wb]? = some (.cells #[.int kd v] tt fz)) :
    ∃ base' cap' w', (Builtin.append_ argTypes ty #[x, y]).run P w = .ok (.slice base' (n + 1) cap') w' ∧ RepH S w0 E (upd H id (some (.row (.one (.int kd)) (ovrL l pos v (i + 1)) true))) nx w' ∧
      Loose S w0 E (upd H id (some (.row (.one (.int kd)) (ovrL l pos v (i + 1)) true))) w' id off L (n + 1) base' cap' := by
  have hyr : Reads P w y 1 1 [.int kd v] := by
    subst hy
    exact reads_cells (b := wb) (o := 0) (c := 1) rfl fun j q hj => by
      rw [cell_of hwb]
      cases j with
      | zero => simpa using hj
      | succ j => simp at hj
  obtain ⟨g1, g2, g3⟩ := hL
  have hlen0 : ∀ k, (ovrL l pos v k).length = L := fun k => by rw [ovr_len (by omega)]; exact hl
  have hupd : ∀ o, upd (upd H id (some (.row (.one (.int kd)) (ovrL l pos v i) true))) id o = upd H id o := fun o => by
    funext j
    by_cases e : j = id
    · subst e; rw [upd_same, upd_same]
    · rw [upd_ne _ _ e, upd_ne _ _ e, upd_ne _ _ e]
  have hsame : ∀ k, L ≤ pos + k → ovrL l pos v (k + 1) = ovrL l pos v k := fun k hk => List.ext_getElem? fun j => by
    rw [ovr_get (by omega), ovr_get (by omega)]
    by_cases h1 : pos ≤ j ∧ j < pos + k ∧ j < l.length
    · rw [if_pos h1, if_pos (by omega)]
    · rw [if_neg h1]
      by_cases h2 : pos ≤ j ∧ j < pos + (k + 1) ∧ j < l.length
      · omega
      · rw [if_neg h2]
  by_cases hfit : n + 1 ≤ cap
  · rcases g3 with g3 | ⟨b, o, c, ct, lo, hi', rfl, hg, hfz, hoc, hplace⟩
    · omega
    have hst : StoreAt P (some ⟨b, o, none⟩) (n * 1) [.int kd v] w (setBlk w b (.cells (spliceA c (o + n) [.int kd v]) ct (lo, hi'))) := by
      show (storeCells ((⟨b, o, none⟩ : Addr).add (n * 1)) [.int kd v]).run P w = _
      rw [addr_add, Nat.mul_one]
      exact store_run [.int kd v] 0 w c hg hfz (by simp; omega) (by simp [oneC])
    have hrun := append_room (ty := ty) (n := n) (cap := cap) (m := 1) (s := 1) h0 hu (by omega) e1 ht hx hyr hfit hst
    have hszc : (spliceA c (o + n) [.int kd v]).size = c.size := by
      simp only [spliceA, List.size_toArray]; rw [splice_len (by simp; omega)]; simp
    have hget : (setBlk w b (.cells (spliceA c (o + n) [.int kd v]) ct (lo, hi'))).heap[b]? = some (.cells (spliceA c (o + n) [.int kd v]) ct (lo, hi')) := by rw [setBlk_get _ _ (lt_of_get hg), if_pos rfl]
    refine ⟨_, cap, _, hrun, ?_⟩
    rcases hplace with ⟨hb', ho', hroom⟩ | ⟨p1, p2, p3, p4⟩
    · -- in the row's block
      subst hb' ho'
      have hid : upd H id (some (.row (.one (.int kd)) (ovrL l pos v i) true)) id = some (.row (.one (.int kd)) (ovrL l pos v i) true) := upd_same _ _ _
      obtain ⟨us, hcont, hblk⟩ := ObjOK_iff.1 (h.obj id _ hid)
      obtain ⟨hus, hall⟩ := EKL_int.1 hcont.1
      rcases hblk with ⟨_, h'⟩ | hblk
      · omega
      unfold Blk at hblk
      rw [if_pos (show (JObj.row (.one (.int kd)) (ovrL l pos v i) true).rw = true from rfl)] at hblk
      obtain ⟨c2, ct2, lo2, hi2, hg2, hfz2, hsz2, hlu2, hu2⟩ := hblk
      rw [hg] at hg2; cases hg2
      have hul : us.length = L := by rw [hus, List.length_map]; exact hlen0 i
      have hml : L ≤ ML := by have := hcont.2; rw [hlen0] at this; exact this
      have hpk := h.poke (o' := .row (.one (.int kd)) (ovrL l pos v (i + 1)) true) hid rfl rfl (by simp only [shp, hlen0]) (by omega) hg hfz hszc hsz2 (us' := (ovrL l pos v (i + 1)).map (Value.int kd))
        ⟨EKL_int.2 ⟨rfl, fun z hz => by
          obtain ⟨j, hj⟩ := List.getElem?_of_mem hz
          rw [ovr_get (by omega)] at hj
          split at hj
          · cases hj; exact hin
          · rename_i hno
            refine hall z (List.mem_of_getElem? (i := j) ?_)
            rw [ovr_get (by omega), if_neg (by omega)]; exact hj⟩, by rw [hlen0]; exact hml⟩ (by rw [List.length_map, hlen0]; omega)
        (by
          apply List.ext_getElem?
          intro j
          rw [List.length_map, hlen0, List.getElem?_take, List.getElem?_drop, List.getElem?_map]
          simp only [spliceA]
          rw [splice_get (by simp; omega)]
          by_cases hj : j < L
          · rw [if_pos hj, ovr_get (by omega)]
            have hold : c.toList[(E.φ id).off + j]? = (ovrL l pos v i)[j]?.map (Value.int kd) := by
              have this : ((c.toList.drop (E.φ id).off).take us.length)[j]? = us[j]? := congrArg (fun l : List Value => l[j]?) hu2
              rw [List.getElem?_take, if_pos (by omega), List.getElem?_drop, hus, List.getElem?_map] at this
              exact this
            by_cases hq : j = pos + i
            · rw [if_neg (by omega), if_pos (by simp; omega), if_pos (by omega), show (E.φ id).off + j - ((E.φ id).off + off + n) = 0 by omega]; rfl
            · have hne : (if (E.φ id).off + j < (E.φ id).off + off + n then c.toList[(E.φ id).off + j]? else if (E.φ id).off + j < (E.φ id).off + off + n + [Value.int kd v].length then [Value.int kd v][(E.φ id).off + j - ((E.φ id).off + off + n)]? else c.toList[(E.φ id).off + j]?) = c.toList[(E.φ id).off + j]? := by
                by_cases h1 : (E.φ id).off + j < (E.φ id).off + off + n
                · rw [if_pos h1]
                · rw [if_neg h1, if_neg (by simp; omega)]
              rw [hne, hold, ovr_get (by omega)]
              by_cases h1 : pos ≤ j ∧ j < pos + i ∧ j < l.length
              · rw [if_pos h1, if_pos (by omega)]
              · rw [if_neg h1, if_neg (by omega)]
          · rw [if_neg hj, List.getElem?_eq_none (by rw [hlen0]; omega)]; rfl)
      rw [hupd] at hpk
      exact ⟨hpk, hfit, g2, .inr ⟨_, _, _, ct, lo, hi', rfl, hget, by rw [hszc]; exact hfz, by rw [hszc]; exact hoc, .inl ⟨rfl, rfl, hroom⟩⟩⟩
    · -- in a block of its own
      have hL2 : L ≤ pos + i := by omega
      rw [hsame i hL2]
      exact ⟨h.aside (lt_of_get hg) p2 p1 p3, hfit, g2, .inr ⟨b, o, _, ct, lo, hi', rfl, hget, by rw [hszc]; exact hfz, by rw [hszc]; exact hoc, .inr ⟨p1, p2, p3, by omega⟩⟩⟩
  · have hxr : ∃ us, Reads P w x n 1 us ∧ us.length = n := by
      subst hx
      rcases g3 with g3 | ⟨b, o, c, ct, lo, hi', rfl, hg, hfz, hoc, hplace⟩
      · have : n = 0 := by omega
        subst this
        exact ⟨[], reads_none, rfl⟩
      · have hlu : ((c.toList.drop o).take n).length = n := by rw [List.length_take, List.length_drop]; simp; omega
        refine ⟨(c.toList.drop o).take n, reads_cells (by rw [hlu, Nat.mul_one]) ?_, hlu⟩
        exact cells_at hg (by rw [hlu])
    obtain ⟨us, hxr, hul⟩ := hxr
    have hrun := append_grow (ty := ty) (n := n) (cap := cap) (m := 1) (s := 1) h0 hu (by omega) e1 ht hx hxr hyr (by omega) hi hz hb1 hb
    have hge := grownCap_ge w (n + 1) cap el
    have hL2 : L ≤ pos + i := by omega
    rw [hsame i hL2]
    have hd : RepH S w0 E (upd H id (some (.row (.one (.int kd)) (ovrL l pos v i) true))) nx w.drew := h.heap rfl rfl rfl rfl
    refine ⟨_, _, _, hrun, hd.grow _, hge, by omega, .inr ⟨w.heap.size, 0, _, el, 0, 0, rfl, by show (w.heap.push _)[w.heap.size]? = _; simp; rfl, .inl (Nat.le_refl _), ?_, .inr ⟨fun lv => ?_, fun j x hj hr hp => ?_, .inr h.keeps.size, by omega⟩⟩⟩
    · have h5 : (us ++ [Value.int kd v]).length = n + 1 := by rw [List.length_append, hul]; rfl
      simp only [List.append_toArray, Array.size_append, List.size_toArray, size_zeroCells, hzs, h5]
      omega
    · cases hc : E.im lv w.heap.size with
      | none => rfl
      | some q => obtain ⟨_, _, hh⟩ := h.imOK _ _ _ hc; exact absurd (lt_of_get hh) (Nat.lt_irrefl _)
    · have := h.blk_lt hj hr hp; omega
theorem unG_ok {o : Oper} {d : Nat} (h : unG o = some d) : o.guard = none ∧ o.dst = some d := by
  unfold unG at h
  split at h
  · cases h
  · rename_i hg; exact ⟨hg, h⟩
theorem moveP_ok {o : Oper} {s d : Nat} (h : moveP o = some (s, d)) : o.guard = none ∧ o.dst = some d ∧ (o.op = .move (.tmp s) ∨ o.op = .assign (.tmp s)) := by
  unfold moveP at h
  split at h
  · rename_i d' hu
    obtain ⟨h1, h2⟩ := unG_ok hu
    split at h
    · rename_i s' he; cases h; exact ⟨h1, h2, .inl he⟩
    · rename_i s' he; cases h; exact ⟨h1, h2, .inr he⟩
    · cases h
  · cases h
theorem cmpP_ok {o : Oper} {s d : Nat} {n : Int} (h : cmpP o = some (s, n, d)) : o.guard = none ∧ o.dst = some d ∧ ∃ t t', o.op = .binOp .lss t (.tmp s) (.const (.int .i64 n)) t' := by
  unfold cmpP at h
  split at h
  · rename_i d' hu
    obtain ⟨h1, h2⟩ := unG_ok hu
    split at h
    · rename_i he; cases h; exact ⟨h1, h2, _, _, he⟩
    · cases h
  · cases h
theorem addP_ok {o : Oper} {s d : Nat} {n : Int} (h : addP o = some (s, n, d)) : o.guard = none ∧ o.dst = some d ∧ ∃ t t', o.op = .binOp .add t (.tmp s) (.const (.int .i64 n)) t' := by
  unfold addP at h
  split at h
  · rename_i d' hu
    obtain ⟨h1, h2⟩ := unG_ok hu
    split at h
    · rename_i he; cases h; exact ⟨h1, h2, _, _, he⟩
    · cases h
  · cases h
theorem bldP_ok {o : Oper} {t : TypeId} {k : IntKind} {v : Int} {d : Nat} (h : bldP o = some (t, k, v, d)) : o.guard = none ∧ o.dst = some d ∧ ∃ ps, o.op = .buildSlice t 1 ps ∧ ps.toList = [(0, .const (.int k v))] := by
  unfold bldP at h
  split at h
  · rename_i d' hu
    obtain ⟨h1, h2⟩ := unG_ok hu
    split at h
    · rename_i t' n ps he
      split at h
      · split at h
        · rename_i hp; cases h; exact ⟨h1, h2, ps, he, hp⟩
        · cases h
      · cases h
    · cases h
  · cases h
theorem appP_ok {o : Oper} {ts : Array TypeId} {x y d : Nat} (h : appP o = some (ts, x, y, d)) : o.guard = none ∧ o.dst = some d ∧ ∃ c, o.op = .call c ∧ c.callee = .builtin .append ∧ c.args.toList = [.tmp x, .tmp y] ∧ c.argTypes = ts := by
  unfold appP at h
  split at h
  · rename_i d' hu
    obtain ⟨h1, h2⟩ := unG_ok hu
    split at h
    · rename_i c he
      split at h
      · rename_i hc
        split at h
        · rename_i ha; cases h; exact ⟨h1, h2, c, he, hc, ha, rfl⟩
        · cases h
      · cases h
    · cases h
  · cases h
section
variable {all : Array Oper} {Q : Exit → Act → World → Prop} {l : List Oper} {o : Oper}
theorem op_step (hg : o.guard = none) (h : Lands P (fun v w' => wpList P all Q l (a.put o.dst v) w') ((execOp a.eval o).run P w)) : wpList P all Q (o :: l) a w := by
  unfold wpList
  rw [if_pos (by simp [Region.wanted, hg])]
  exact .inl (h.upon fun v w' h => h)
theorem step_move {s d : Nat} (h : moveP o = some (s, d)) (hq : wpList P all Q l (a.put (some d) (a.tmps.getD s undef)) w) : wpList P all Q (o :: l) a w := by
  obtain ⟨h1, h2, h3⟩ := moveP_ok h
  refine op_step h1 ?_
  rw [h2]
  rcases h3 with h3 | h3 <;> simp only [execOp, h3] <;> exact hq
theorem step_cmp {s d : Nat} {n i : Int} (h : cmpP o = some (s, n, d)) (hx : a.tmps.getD s undef = .int .i64 i) (hq : wpList P all Q l (a.put (some d) (.bool (decide (i < n)))) w) : wpList P all Q (o :: l) a w := by
  obtain ⟨h1, h2, t, t', h3⟩ := cmpP_ok h
  refine op_step h1 ?_
  rw [h2]
  have e1 : a.eval (.tmp s) = .int .i64 i := hx
  have e2 : a.eval (.const (.int .i64 n)) = .int .i64 n := rfl
  simp only [execOp, h3, e1, e2]
  refine Lands.of_ok (v := .bool (decide (i < n))) (w' := w) ?_ hq
  rw [Sem.run_bind, eqGuard_int, Result.andThen_ok]
  simp only [binOp, ne_eq, not_true_eq_false, if_false, Op.intArith, Op.intDiv, Op.intBits, Op.intCmp]; rfl
theorem step_add {s d : Nat} {n i : Int} (h : addP o = some (s, n, d)) (hx : a.tmps.getD s undef = .int .i64 i) (hq : wpList P all Q l (a.put (some d) (.int .i64 (IntKind.wrap .i64 (i + n)))) w) : wpList P all Q (o :: l) a w := by
  obtain ⟨h1, h2, t, t', h3⟩ := addP_ok h
  refine op_step h1 ?_
  rw [h2]
  have e1 : a.eval (.tmp s) = .int .i64 i := hx
  have e2 : a.eval (.const (.int .i64 n)) = .int .i64 n := rfl
  simp only [execOp, h3, e1, e2]
  refine Lands.of_ok (v := .int .i64 (IntKind.wrap .i64 (i + n))) (w' := w) ?_ hq
  rw [Sem.run_bind, eqGuard_int, Result.andThen_ok]
  simp only [binOp, ne_eq, not_true_eq_false, if_false, Op.intArith, Op.intDiv, Op.intBits, Op.intCmp]; rfl
theorem step_bld {t el : TypeId} {k : IntKind} {v : Int} {d : Nat} {info : TypeInfo} {zv : Value} (h : bldP o = some (t, k, v, d)) (hu : P.underlying t = some (.slice el)) (e1 : sizeJ P el = 1) (hi : P.info? el = some info) (hz : info.zero = some zv) (hzs : zv.cells.size = 1)
    (hq : wpList P all Q l (a.put (some d) (.slice (some ⟨w.heap.size, 0, none⟩) 1 1)) (w.alloc (.cells #[.int k v] el))) : wpList P all Q (o :: l) a w := by
  obtain ⟨h1, h2, ps, h3, h4⟩ := bldP_ok h
  refine op_step h1 ?_
  rw [h2]
  simp only [execOp, h3]
  refine Lands.of_ok (v := .slice (some ⟨w.heap.size, 0, none⟩) 1 1) (w' := w.alloc (.cells #[.int k v] el)) ?_ hq
  have e2 : (ps.map fun (i, x) => (i, a.eval x)).toList = [(0, .int k v)] := by rw [Array.toList_map, h4]; rfl
  have hf : ∀ zs : Array Value, zs.size = 1 → Instr.fill (fun i => some (i, 1)) zs [(0, .int k v)] = some #[.int k v] := fun zs hz => by
    obtain ⟨z, rfl⟩ : ∃ z, zs = #[z] := by
      cases zs with
      | mk l =>
        match l, hz with
        | [z], _ => exact ⟨z, rfl⟩
    rfl
  simp only [Instr.buildSlice, Sem.run_bind, run_underlying hu, Result.andThen_ok, size_pos (show 1 ≤ sizeJ P el by omega), Sem.run_ite, e1, Nat.mul_one, if_neg (show ¬ (1 : Nat) > 2 ^ 24 by decide), if_neg (show ¬ (1 : Nat) = 0 by decide), Sem.run_pure, run_zero (w := w) hi hz, e2]
  rw [hf _ (by simp)]
  rfl
theorem step_app {ts : Array TypeId} {x y d : Nat} {v : Value} {w' : World} (h : appP o = some (ts, x, y, d)) (hrun : (Builtin.append_ ts o.type #[a.tmps.getD x undef, a.tmps.getD y undef]).run P w = .ok v w') (hq : wpList P all Q l (a.put (some d) v) w') : wpList P all Q (o :: l) a w := by
  obtain ⟨h1, h2, c, h3, h4, h5, rfl⟩ := appP_ok h
  refine op_step h1 ?_
  rw [h2]
  have e1 : c.args.map a.eval = #[a.tmps.getD x undef, a.tmps.getD y undef] := by apply Array.ext'; rw [Array.toList_map, h5]; rfl
  simp only [execOp, h3, resolve, h4, e1, Sem.run_bind, Sem.run_pure, Result.andThen_ok, invoke, builtin]
  rw [hrun]; exact hq
end
theorem putD {d j : Nat} {v : Value} (hd : d < a.tmps.size) : (a.put (some d) v).tmps.getD j undef = if j = d then v else a.tmps.getD j undef := by
  show (a.tmps.setIfInBounds d v).getD j undef = _
  by_cases h : j = d
  · subst h; rw [if_pos rfl, Array.getD_eq_getD_getElem?, Array.getElem?_setIfInBounds_self_of_lt hd]; rfl
  · rw [if_neg h, Array.getD_eq_getD_getElem?, Array.getElem?_setIfInBounds_ne (fun e => h e.symm), ← Array.getD_eq_getD_getElem?]
theorem growP_ok {c : Code} {g : GrowL} (h : growP c = some g) : ∃ (h1 r q b2 : Nat) (o1 o2 o3 : Array Oper) (p1 p2 q1 q2 q3 q4 r1 r2 r3 : Oper),
    c = .loop (.seq (.seq (.region h1 o1 false) (.cond (.tmp g.c) .skip (.exit g.b))) (.seq (.block b2 (.region r o2 false)) (.region q o3 false))) ∧ o1.toList = [p1, p2] ∧ o2.toList = [q1, q2, q3, q4] ∧ o3.toList = [r1, r2, r3] ∧
    moveP p1 = some (g.k, g.a1) ∧ cmpP p2 = some (g.a1, (g.N : Int), g.c) ∧ moveP q1 = some (g.m, g.d1) ∧ bldP q2 = some (g.t, g.kd, g.v, g.d2) ∧ appP q3 = some (g.argTypes, g.d1, g.d2, g.d3) ∧ moveP q4 = some (g.d3, g.m) ∧ moveP r1 = some (g.k, g.e1) ∧ addP r2 = some (g.e1, 1, g.e2) ∧ moveP r3 = some (g.e2, g.k) ∧ g.N ≤ 1000000 ∧
    (g.k ≠ g.m ∧ g.a1 ≠ g.k ∧ g.a1 ≠ g.m ∧ g.c ≠ g.k ∧ g.c ≠ g.m ∧ g.d1 ≠ g.k ∧ g.d1 ≠ g.m ∧ g.d2 ≠ g.k ∧ g.d2 ≠ g.m ∧ g.d2 ≠ g.d1 ∧ g.d3 ≠ g.k ∧ g.d3 ≠ g.m ∧ g.e1 ≠ g.k ∧ g.e1 ≠ g.m ∧ g.e2 ≠ g.k ∧ g.e2 ≠ g.m) := by
  unfold growP at h
  split at h
  · rename_i h1 o1 cc b b2 r o2 q o3
    unfold growO at h
    split at h
    · rename_i p1 p2 q1 q2 q3 q4 r1 r2 r3 e1 e2 e3
      split at h
      · rename_i k a1 s2 N c' m d1 f1 f2 f3
        split at h
        · rename_i t kd v d2 ts x y d3 s4 m' f4 f5 f6
          split at h
          · rename_i k' e1' s5 one e2' s6 k'' f7 f8 f9
            generalize hc : (((Nat.beq s2 a1 && Nat.beq c' cc && Nat.beq x d1 && Nat.beq y d2 && Nat.beq s4 d3 && Nat.beq m' m) && (Nat.beq k' k && Nat.beq s5 e1' && Nat.beq s6 e2' && Nat.beq k'' k) && (decide (one = 1) && decide (0 ≤ N) && decide (N ≤ 1000000))) &&
              (!Nat.beq k m && !Nat.beq a1 k && !Nat.beq a1 m && !Nat.beq cc k && !Nat.beq cc m && !Nat.beq d1 k && !Nat.beq d1 m && !Nat.beq d2 k && !Nat.beq d2 m && !Nat.beq d2 d1 && !Nat.beq d3 k && !Nat.beq d3 m && !Nat.beq e1' k && !Nat.beq e1' m && !Nat.beq e2' k && !Nat.beq e2' m)) = cnd at h
            cases cnd with
            | false => cases h
            | true =>
              cases h
              simp only [Bool.and_eq_true, decide_eq_true_eq, Bool.not_eq_true', Nat.beq_eq] at hc
              obtain ⟨⟨⟨⟨⟨⟨⟨⟨rfl, rfl⟩, rfl⟩, rfl⟩, rfl⟩, rfl⟩, ⟨⟨⟨rfl, rfl⟩, rfl⟩, rfl⟩⟩, ⟨rfl, n0⟩, n1⟩, hne⟩ := hc
              have ne : ∀ {x y : Nat}, Nat.beq x y = false → x ≠ y := fun h e => by subst e; rw [Nat.beq_refl] at h; cases h
              obtain ⟨⟨⟨⟨⟨⟨⟨⟨⟨⟨⟨⟨⟨⟨⟨z1, z2⟩, z3⟩, z4⟩, z5⟩, z6⟩, z7⟩, z8⟩, z9⟩, z10⟩, z11⟩, z12⟩, z13⟩, z14⟩, z15⟩, z16⟩ := hne
              exact ⟨h1, r, q, b2, o1, o2, o3, p1, p2, q1, q2, q3, q4, r1, r2, r3, rfl, e1, e2, e3, f1, by rw [f2]; simp only [Int.toNat_of_nonneg n0], f3, f4, f5, f6, f7, f8, f9, by show N.toNat ≤ 1000000; omega, ne z1, ne z2, ne z3, ne z4, ne z5, ne z6, ne z7, ne z8, ne z9, ne z10, ne z11, ne z12, ne z13, ne z14, ne z15, ne z16⟩
          · cases h
        · cases h
      · cases h
    · cases h
  · cases h
def GI (S : Sc) (w0 : World) (E : En) (st : St) (g : GrowL) (id off : Nat) (l : List Int) (pos n0 n i : Nat) (a : Act) (w : World) : Prop :=
  a.defers = [] ∧ a.tmps.size = n ∧ RepH S w0 E (upd st.H id (some (.row (.one (.int g.kd)) (ovrL l pos g.v i) true))) st.nx w ∧
  (∀ j, j ∉ g.hit → RV E st.H (st.env j) (a.tmps.getD j undef)) ∧ a.tmps.getD g.k undef = .int .i64 (i : Int) ∧
  ∃ base cap, a.tmps.getD g.m undef = .slice base (n0 + i) cap ∧ Loose S w0 E (upd st.H id (some (.row (.one (.int g.kd)) (ovrL l pos g.v i) true))) w id off l.length (n0 + i) base cap
theorem grow_round {Q : Exit → Act → World → Prop} {g : GrowL} {id off pos n0 n : Nat} {l : List Int} {el : TypeId} {info : TypeInfo} {zv : Value} {h1 rr q b2 : Nat} {o1 o2 o3 : Array Oper} {p1 p2 q1 q2 q3 q4 r1 r2 r3 : Oper}
    (e1 : o1.toList = [p1, p2]) (e2 : o2.toList = [q1, q2, q3, q4]) (e3 : o3.toList = [r1, r2, r3]) (f1 : moveP p1 = some (g.k, g.a1)) (f2 : cmpP p2 = some (g.a1, (g.N : Int), g.c)) (f3 : moveP q1 = some (g.m, g.d1)) (f4 : bldP q2 = some (g.t, g.kd, g.v, g.d2)) (f5 : appP q3 = some (g.argTypes, g.d1, g.d2, g.d3))
    (f6 : moveP q4 = some (g.d3, g.m)) (f7 : moveP r1 = some (g.k, g.e1)) (f8 : addP r2 = some (g.e1, 1, g.e2)) (f9 : moveP r3 = some (g.e2, g.k)) (hN : g.N ≤ 1000000)
    (hne : g.k ≠ g.m ∧ g.a1 ≠ g.k ∧ g.a1 ≠ g.m ∧ g.c ≠ g.k ∧ g.c ≠ g.m ∧ g.d1 ≠ g.k ∧ g.d1 ≠ g.m ∧ g.d2 ≠ g.k ∧ g.d2 ≠ g.m ∧ g.d2 ≠ g.d1 ∧ g.d3 ≠ g.k ∧ g.d3 ≠ g.m ∧ g.e1 ≠ g.k ∧ g.e1 ≠ g.m ∧ g.e2 ≠ g.k ∧ g.e2 ≠ g.m)
    (hsz : g.k < n ∧ g.m < n ∧ g.a1 < n ∧ g.c < n ∧ g.d1 < n ∧ g.d2 < n ∧ g.d3 < n ∧ g.e1 < n ∧ g.e2 < n)
    (hpos : pos ≤ l.length) (hoff : off + n0 = pos) (hin : inK g.kd g.v) (h0 : g.argTypes[0]? = some g.t) (hu : P.underlying g.t = some (.slice el)) (hs1 : sizeJ P el = 1) (ht : tailJ P g.argTypes[1]? = true) (hi : P.info? el = some info) (hz : info.zero = some zv) (hzs : zv.cells.size = 1) (hb1 : 1 ≤ info.bytes) (hb : (n0 + g.N) * info.bytes ≤ room)
    (hfin : ∀ a w, GI S w0 E st g id off l pos n0 n g.N a w → Q .normal a w) : ∀ (j i : Nat) (a : Act) (w : World), i + j = g.N → GI S w0 E st g id off l pos n0 n i a w →
    (Code.seq (.seq (.region h1 o1 false) (.cond (.tmp g.c) .skip (.exit g.b))) (.seq (.block b2 (.region rr o2 false)) (.region q o3 false))).wp P
      (Exit.then (LW P (Code.seq (.seq (.region h1 o1 false) (.cond (.tmp g.c) .skip (.exit g.b))) (.seq (.block b2 (.region rr o2 false)) (.region q o3 false))) (Exit.inBlock g.b Q)) (Exit.inBlock g.b Q)) a w := by
  obtain ⟨z1, z2, z3, z4, z5, z6, z7, z8, z9, z10, z11, z12, z13, z14, z15, z16⟩ := hne
  obtain ⟨s1, s2, s3, s4, s5, s6, s7, s8, s9⟩ := hsz
  have hhit : ∀ {j : Nat}, j ∉ g.hit → j ≠ g.k ∧ j ≠ g.m ∧ j ≠ g.a1 ∧ j ≠ g.c ∧ j ≠ g.d1 ∧ j ≠ g.d2 ∧ j ≠ g.d3 ∧ j ≠ g.e1 ∧ j ≠ g.e2 := fun {j} h => by
    unfold GrowL.hit at h
    simp only [List.mem_cons, List.not_mem_nil, or_false, not_or] at h
    obtain ⟨a1, a2, a3, a4, a5, a6, a7, a8, a9⟩ := h
    exact ⟨a1, a2, a3, a4, a5, a6, a7, a8, a9⟩
  intro j
  induction j with
  | zero =>
    rintro i a w hij ⟨i1, i2, i3, i4, i5, i6⟩
    have hiN : i = g.N := by omega
    refine wp_seq (wp_seq (wp_region_list ?_))
    rw [e1]
    refine step_move f1 (step_cmp (i := (i : Int)) f2 (by rw [putD (by omega), if_pos rfl]; exact i5) (wpList_nil ?_))
    rw [decide_eq_false (show ¬ ((i : Int) < (g.N : Int)) by omega)]
    refine wp_cond (t := false) (by show ((a.put (some g.a1) _).put (some g.c) _).tmps.getD g.c undef = _; rw [putD (by rw [put_size]; omega), if_pos rfl]) ?_
    refine wp_exit ?_
    show Exit.inBlock g.b Q (.exit g.b) _ _
    show (if g.b = g.b then _ else _)
    rw [if_pos rfl]
    refine hfin _ _ ⟨i1, by rw [put_size, put_size]; exact i2, hiN ▸ i3, fun j hj => ?_, ?_, ?_⟩
    · obtain ⟨_, _, a3, a4, _⟩ := hhit hj
      rw [putD (by rw [put_size]; omega), if_neg a4, putD (by omega), if_neg a3]; exact i4 j hj
    · rw [putD (by rw [put_size]; omega), if_neg (Ne.symm z4), putD (by omega), if_neg (Ne.symm z2), i5, hiN]
    · rw [putD (by rw [put_size]; omega), if_neg (Ne.symm z5), putD (by omega), if_neg (Ne.symm z3)]
      exact hiN ▸ i6
  | succ j ih =>
    rintro i a w hij ⟨i1, i2, i3, i4, i5, base, cap, i6, i7⟩
    refine wp_seq (wp_seq (wp_region_list ?_))
    rw [e1]
    refine step_move f1 (step_cmp (i := (i : Int)) f2 (by rw [putD (by omega), if_pos rfl]; exact i5) (wpList_nil ?_))
    rw [decide_eq_true (show ((i : Int) < (g.N : Int)) by omega)]
    refine wp_cond (t := true) (by show ((a.put (some g.a1) _).put (some g.c) _).tmps.getD g.c undef = _; rw [putD (by rw [put_size]; omega), if_pos rfl]) ?_
    refine wp_skip ?_
    refine wp_seq (wp_block (wp_region_list ?_))
    rw [e2]
    generalize ha1 : (a.put (some g.a1) (a.tmps.getD g.k undef)).put (some g.c) (.bool true) = a1
    have n1 : a1.tmps.size = n := by rw [← ha1, put_size, put_size]; exact i2
    have g1 : ∀ j, j ≠ g.a1 → j ≠ g.c → a1.tmps.getD j undef = a.tmps.getD j undef := fun j h1 h2 => by
      rw [← ha1, putD (by rw [put_size]; omega), if_neg h2, putD (by omega), if_neg h1]
    have dd1 : a1.defers = [] := by rw [← ha1]; exact i1
    refine step_move f3 (step_bld (el := el) f4 hu hs1 hi hz hzs ?_)
    generalize ha2 : (a1.put (some g.d1) (a1.tmps.getD g.m undef)).put (some g.d2) (.slice (some ⟨w.heap.size, 0, none⟩) 1 1) = a2
    have n2 : a2.tmps.size = n := by rw [← ha2, put_size, put_size]; exact n1
    have g2 : ∀ j, j ≠ g.d1 → j ≠ g.d2 → a2.tmps.getD j undef = a1.tmps.getD j undef := fun j h1 h2 => by
      rw [← ha2, putD (by rw [put_size]; omega), if_neg h2, putD (by omega), if_neg h1]
    have dd2 : a2.defers = [] := by rw [← ha2]; exact dd1
    have hx : a2.tmps.getD g.d1 undef = .slice base (n0 + i) cap := by
      rw [← ha2, putD (by rw [put_size]; omega), if_neg (Ne.symm z10), putD (by omega), if_pos rfl, g1 _ (Ne.symm z3) (Ne.symm z5)]; exact i6
    have hy : a2.tmps.getD g.d2 undef = .slice (some ⟨w.heap.size, 0, none⟩) 1 1 := by
      rw [← ha2, putD (by rw [put_size]; omega), if_pos rfl]
    have hbound : (n0 + i + 1) * info.bytes ≤ room := Nat.le_trans (Nat.mul_le_mul_right _ (by omega)) hb
    obtain ⟨base', cap', w', k1, k2, k3⟩ := loose_append (ty := q3.type) (wb := w.heap.size) (tt := el) (fz := (0, 0)) (i3.grow (.cells #[.int g.kd g.v] el)) rfl hpos (by omega) hin h0 hu hs1 ht hi hz hzs hb1 hbound hx (i7.grow _) hy (by show (w.heap.push _)[w.heap.size]? = _; simp)
    refine step_app f5 k1 (step_move f6 (wpList_nil ?_))
    show (Code.region q o3 false).wp P _ _ _
    refine wp_region_list ?_
    rw [e3]
    generalize ha3 : (a2.put (some g.d3) (.slice base' (n0 + i + 1) cap')).put (some g.m) ((a2.put (some g.d3) (.slice base' (n0 + i + 1) cap')).tmps.getD g.d3 undef) = a3
    have n3 : a3.tmps.size = n := by rw [← ha3, put_size, put_size]; exact n2
    have g3 : ∀ j, j ≠ g.d3 → j ≠ g.m → a3.tmps.getD j undef = a2.tmps.getD j undef := fun j h1 h2 => by
      rw [← ha3, putD (by rw [put_size]; omega), if_neg h2, putD (by omega), if_neg h1]
    have dd3 : a3.defers = [] := by rw [← ha3]; exact dd2
    have hm : a3.tmps.getD g.m undef = .slice base' (n0 + i + 1) cap' := by
      rw [← ha3, putD (by rw [put_size]; omega), if_pos rfl, putD (by omega), if_pos rfl]
    have hk : a3.tmps.getD g.k undef = .int .i64 (i : Int) := by
      rw [g3 _ (Ne.symm z11) z1, g2 _ (Ne.symm z6) (Ne.symm z8), g1 _ (Ne.symm z2) (Ne.symm z4)]; exact i5
    have hw : IntKind.wrap .i64 ((i : Int) + 1) = ((i + 1 : Nat) : Int) := by rw [IntKind.wrap_i64]; omega
    refine step_move f7 (step_add (i := (i : Int)) f8 (by rw [putD (by omega), if_pos rfl]; exact hk) (step_move f9 (wpList_nil ?_)))
    rw [hw]
    generalize ha4 : (a3.put (some g.e1) (a3.tmps.getD g.k undef)).put (some g.e2) (.int .i64 ((i + 1 : Nat) : Int)) = a4
    have n4 : a4.tmps.size = n := by rw [← ha4, put_size, put_size]; exact n3
    have g4 : ∀ j, j ≠ g.e1 → j ≠ g.e2 → a4.tmps.getD j undef = a3.tmps.getD j undef := fun j h1 h2 => by
      rw [← ha4, putD (by rw [put_size]; omega), if_neg h2, putD (by omega), if_neg h1]
    have dd4 : a4.defers = [] := by rw [← ha4]; exact dd3
    have he2 : a4.tmps.getD g.e2 undef = .int .i64 ((i + 1 : Nat) : Int) := by rw [← ha4, putD (by rw [put_size]; omega), if_pos rfl]
    refine lw_of_round (ih (i + 1) _ _ (by omega) ⟨dd4, by rw [put_size]; exact n4, k2, fun j hj => ?_, by rw [putD (by omega), if_pos rfl]; exact he2, base', cap', ?_, k3⟩)
    · obtain ⟨b1, b2, b3, b4, b5, b6, b7, b8, b9⟩ := hhit hj
      rw [putD (by omega), if_neg b1, g4 _ b8 b9, g3 _ b7 b2, g2 _ b5 b6, g1 _ b3 b4]; exact i4 j hj
    · rw [putD (by omega), if_neg (Ne.symm z1), g4 _ (Ne.symm z14) (Ne.symm z16)]; exact hm
theorem grow_ok {Q : Exit → Act → World → Prop} {K : St → Option R} {n id0 : Nat} {c : Code} {g : GrowL} (hg : growP c = some g) (hid0 : g.b = id0) (hd : dstsOk n c = true)
    (hQ : ∀ st', K st' = some r → ∀ E a w, Rep S w0 E st' a w → a.tmps.size = n → Q .normal a w) (hK : growH P g st K = some r) (hR : Rep S w0 E st a w) (hn : a.tmps.size = n) : c.wp P (Exit.inBlock id0 Q) a w := by
  obtain ⟨h1, rr, q, b2, o1, o2, o3, p1, p2, q1, q2, q3, q4, r1, r2, r3, rfl, e1, e2, e3, f1, f2, f3, f4, f5, f6, f7, f8, f9, hN, hne⟩ := growP_ok hg
  subst hid0
  have hsz : g.k < n ∧ g.m < n ∧ g.a1 < n ∧ g.c < n ∧ g.d1 < n ∧ g.d2 < n ∧ g.d3 < n ∧ g.e1 < n ∧ g.e2 < n := by
    simp only [dstsOk, e1, e2, e3, List.all_cons, List.all_nil, Bool.and_eq_true, Bool.and_true, true_and, and_true] at hd
    obtain ⟨⟨c1, c2⟩, ⟨⟨c3, c4, c5, c6⟩, c7, c8, c9⟩⟩ := hd
    exact ⟨dstOk_ok c9 _ (moveP_ok f9).2.1, dstOk_ok c6 _ (moveP_ok f6).2.1, dstOk_ok c1 _ (moveP_ok f1).2.1, dstOk_ok c2 _ (cmpP_ok f2).2.1, dstOk_ok c3 _ (moveP_ok f3).2.1, dstOk_ok c4 _ (bldP_ok f4).2.1, dstOk_ok c5 _ (appP_ok f5).2.1, dstOk_ok c7 _ (moveP_ok f7).2.1, dstOk_ok c8 _ (addP_ok f8).2.1⟩
  unfold growH at hK
  split at hK
  · rename_i el hu
    split at hK
    · rename_i kd huk
      split at hK
      · rename_i info hi
        split at hK
        · rename_i zv hz
          generalize hc : (Nat.beq (sizeJ P el) 1 && Nat.beq zv.cells.size 1 && Nat.ble 1 (bytesJ P el) && decide (kd = g.kd) && decide (kd.min ≤ g.v) && decide (g.v ≤ kd.max) && tailJ P g.argTypes[1]? && decide (g.argTypes[0]? = some g.t)) = cnd at hK
          cases cnd with
          | false => cases hK
          | true =>
            rw [cond_true] at hK
            simp only [Bool.and_eq_true, decide_eq_true_eq] at hc
            obtain ⟨⟨⟨⟨⟨⟨⟨c1, c2⟩, c3⟩, rfl⟩, c5⟩, c6⟩, c7⟩, c8⟩ := hc
            have c1 : sizeJ P el = 1 := Nat.eq_of_beq_eq_true c1
            have c2 : zv.cells.size = 1 := Nat.eq_of_beq_eq_true c2
            have c3 : 1 ≤ bytesJ P el := Nat.le_of_ble_eq_true c3
            have hby : bytesJ P el = info.bytes := by simp [bytesJ, Program.bytesOf, hi]
            split at hK
            · rename_i k0 z0 hk0
              generalize hc2 : (decide (k0 = .i64) && decide (z0 = 0)) = cnd2 at hK
              cases cnd2 with
              | false => cases hK
              | true =>
                rw [cond_true] at hK
                simp only [Bool.and_eq_true, decide_eq_true_eq] at hc2
                obtain ⟨rfl, rfl⟩ := hc2
                have hkv := hR.env g.k
                rw [hk0] at hkv
                obtain ⟨hkv, _⟩ := RV_int hkv
                -- a part of a row
                have core : ∀ (id off n0 : Nat) (l : List Int), st.H id = some (.row (.one (.int g.kd)) l true) → off + n0 ≤ l.length → (∃ v, a.tmps.getD g.m undef = v ∧ SlOK (E.φ id) 1 off n0 l.length v) → (n0 + g.N) * bytesJ P el ≤ room →
                    K ⟨fun i => cond (memB i g.hit) .junk (st.env i), upd st.H id (some (.row (.one (.int g.kd)) (ovrL l (off + n0) g.v g.N) true)), st.nx⟩ = some r → (Code.loop (.seq (.seq (.region h1 o1 false) (.cond (.tmp g.c) .skip (.exit g.b))) (.seq (.block b2 (.region rr o2 false)) (.region q o3 false)))).wp P (Exit.inBlock g.b Q) a w := by
                  rintro id off n0 l ho hle ⟨v, hv, base, cap, rfl, d1, d2, d3, d4⟩ hroom hK2
                  have hself : upd st.H id (some (.row (.one (.int g.kd)) (ovrL l (off + n0) g.v 0) true)) = st.H := by
                    rw [ovr_zero hle]
                    funext j
                    by_cases hj : j = id
                    · subst hj; rw [upd_same, ho]
                    · rw [upd_ne _ _ hj]
                  refine loop_of_round (grow_round (S := S) (w0 := w0) (E := E) (st := st) (id := id) (off := off) (pos := off + n0) (n0 := n0) (n := n) (l := l) e1 e2 e3 f1 f2 f3 f4 f5 f6 f7 f8 f9 hN hne hsz hle rfl ⟨c5, c6⟩ c8 hu c1 c7 hi hz c2 (by omega) (by rw [← hby]; exact hroom) (fun a' w' hgi => ?_) g.N 0 a w (by omega) ?_)
                  · obtain ⟨j1, j2, j3, j4, _⟩ := hgi
                    refine hQ _ hK2 E a' w' { j3 with env := fun i => ?_, defers := j1 } j2
                    show RV E (upd st.H id (some (.row (.one (.int g.kd)) (ovrL l (off + n0) g.v g.N) true))) (cond (memB i g.hit) .junk (st.env i)) _
                    cases hm : memB i g.hit with
                    | true => trivial
                    | false =>
                      refine RV_shp (fun i => ?_) (j4 i fun hmem => by rw [memB_iff.2 hmem] at hm; cases hm)
                      by_cases hj : i = id
                      · subst hj; rw [upd_same, ho]; simp only [shp, ovr_len hle]
                      · rw [upd_ne _ _ hj]
                  · refine ⟨hR.defers, hn, by rw [hself]; exact hR.toRepH, fun j _ => hR.env j, by rw [hkv]; rfl, base, cap, hv, ?_⟩
                    rw [hself, Nat.add_zero]
                    refine ⟨d1, d2, ?_⟩
                    rcases d4 with d4 | rfl
                    · exact .inl d4
                    · rw [Nat.mul_one] at d3
                      by_cases hcap : cap = 0
                      · exact .inl hcap
                      · right
                        obtain ⟨us, hcont, hblk⟩ := ObjOK_iff.1 (hR.obj id _ ho)
                        rcases hblk with ⟨_, h'⟩ | hblk
                        · omega
                        unfold Blk at hblk
                        rw [if_pos (show (JObj.row (.one (.int g.kd)) l true).rw = true from rfl)] at hblk
                        obtain ⟨cc, ct, lo, hi2, q1', q2', q3', _⟩ := hblk
                        exact ⟨_, _, cc, ct, lo, hi2, rfl, q1', q2', by omega, .inl ⟨rfl, by rw [Nat.mul_one], d3⟩⟩
                split at hK
                · rename_i id hm
                  split at hK
                  · rename_i e l ho
                    split at hK
                    · rename_i l' hcl
                      obtain ⟨he, hl⟩ := castL_inv hcl
                      subst he
                      have hl := eq_of_heq hl
                      subst hl
                      split at hK
                      · rename_i hroom
                        have hmv := hR.env g.m
                        rw [hm] at hmv
                        obtain ⟨_, y, ey, _, hy⟩ := hmv; cases ey
                        have hsl := hy _ _ (by rw [ho]; rfl)
                        refine core id 0 l.length l ho (by omega) ⟨_, rfl, hsl⟩ hroom ?_
                        have hself : upd st.H id (some (.row (.one (.int g.kd)) (ovrL l (0 + l.length) g.v g.N) true)) = st.H := by
                          rw [Nat.zero_add, ovr_end]
                          funext j
                          by_cases hj : j = id
                          · subst hj; rw [upd_same, ho]
                          · rw [upd_ne _ _ hj]
                        rw [hself]; exact hK
                      · cases hK
                    · cases hK
                  · cases hK
                · rename_i id off n0 hm
                  split at hK
                  · rename_i e l ho
                    split at hK
                    · rename_i l' hcl
                      obtain ⟨he, hl⟩ := castL_inv hcl
                      subst he
                      have hl := eq_of_heq hl
                      subst hl
                      split at hK
                      · rename_i hroom
                        have hmv := hR.env g.m
                        rw [hm] at hmv
                        obtain ⟨_, y, ey, _, hy⟩ := hmv; cases ey
                        obtain ⟨hle, hsl⟩ := hy.1 _ _ (by rw [ho]; rfl)
                        exact core id off n0 l ho hle ⟨_, rfl, hsl⟩ hroom hK
                      · cases hK
                    · cases hK
                  · cases hK
                · cases hK
            · cases hK
        · cases hK
      · cases hK
    · cases hK
  · cases hK
end Go.Eng

namespace Go.Eng
variable {R : Type} {P : Program} {S : Sc} {w0 w : World} {E : En} {st : St} {a : Act} {r : R} {H : Nat → Option JObj}
def toX : JX → Exit
  | .normal => .normal
  | .exit id => .exit id
  | .ret => .ret
def KOK (S : Sc) (w0 : World) (n : Nat) (r : R) (K : JX → St → Option R) (Q : Exit → Act → World → Prop) : Prop :=
  ∀ e st, K e st = some r → ∀ E a w, Rep S w0 E st a w → a.tmps.size = n → Q (toX e) a w
def At (P : Program) : Code → (Exit → Act → World → Prop) → Code → (Exit → Act → World → Prop) → Prop
  | .seq a b, Q, c', Q' => At P a (Exit.then (b.wp P Q) Q) c' Q' ∨ At P b Q c' Q'
  | .cond _ a b, Q, c', Q' => At P a Q c' Q' ∨ At P b Q c' Q'
  | .block id c, Q, c', Q' => At P c (Exit.inBlock id Q) c' Q'
  | .loop c, Q, c', Q' => (c' = c ∧ Q' = Q) ∨ At P c (Exit.then (LW P c Q) Q) c' Q'
  | _, _, _, _ => False
def LOK (P : Program) (S : Sc) (w0 : World) (n : Nat) (r : R) (L : Nat → St → Option R) (c : Code) (Q : Exit → Act → World → Prop) : Prop :=
  ∀ c' Q', At P c Q c' Q' → ∀ st, L (headId c') st = some r → ∀ E a w, Rep S w0 E st a w → a.tmps.size = n → c'.wp P (Exit.then (LW P c' Q') Q') a w
theorem KOK.then {n : Nat} {K' : St → Option R} {K : JX → St → Option R} {Q : Exit → Act → World → Prop} {N : Act → World → Prop} (h : KOK S w0 n r K Q) (h' : ∀ st, K' st = some r → ∀ E a w, Rep S w0 E st a w → a.tmps.size = n → N a w) : KOK S w0 n r (andThen K' K) (Exit.then N Q) := by
  intro e st hK E a w hR hn
  cases e with
  | normal => exact h' st hK E a w hR hn
  | exit id => exact h (.exit id) st hK E a w hR hn
  | ret => exact h .ret st hK E a w hR hn
theorem KOK.blk {n id : Nat} {K : JX → St → Option R} {Q : Exit → Act → World → Prop} (h : KOK S w0 n r K Q) : KOK S w0 n r (inBlk id K) (Exit.inBlock id Q) := by
  intro e st hK E a w hR hn
  cases e with
  | normal => exact h .normal st hK E a w hR hn
  | exit id' =>
    simp only [inBlk] at hK
    simp only [toX, Exit.inBlock]
    cases hb : Nat.beq id' id with
    | true => rw [hb] at hK; rw [if_pos (Nat.eq_of_beq_eq_true hb)]; exact h .normal st hK E a w hR hn
    | false =>
      rw [hb] at hK
      rw [if_neg (fun e => by subst e; simp at hb)]
      exact h (.exit id') st hK E a w hR hn
  | ret => exact h .ret st hK E a w hR hn
theorem codeJ_ok {C : CallJ R} {C' : CallJ PK} (hC : CallOK P C) (hN : CallNat C C') (hC' : CallOK P C') (hmo : P.follows .mixedOrders = true) {L : Nat → St → Option R} {n : Nat} : ∀ {c : Code} {K : JX → St → Option R} {Q : Exit → Act → World → Prop} {st : St} {E : En} {a : Act} {w : World}, dstsOk n c = true → LOK P S w0 n r L c Q → KOK S w0 n r K Q → codeJ P C L c st K = some r →
    Rep S w0 E st a w → a.tmps.size = n → c.wp P Q a w
  | .skip, K, Q, st, E, a, w, hd, hL, hQ, hK, hR, hn => wp_skip (hQ .normal st hK E a w hR hn)
  | .region id ops draw, K, Q, st, E, a, w, hd, hL, hQ, hK, hR, hn => by
    simp only [codeJ] at hK
    cases draw with
    | true =>
      cases hcalm : calmB P ops.toList with
      | true => rw [hcalm] at hK; exact calm_ok hN hC' hmo hd (fun E' st' a' w' hK' hR' hn' => hQ .normal st' hK' E' a' w' hR' hn') hcalm hK hR hn
      | false =>
        rw [hcalm] at hK
        cases hb : briskB P ops.toList with
        | true => rw [hb] at hK; exact brisk_ok hN hC' hmo hd (fun E' st' a' w' hK' hR' hn' => hQ .normal st' hK' E' a' w' hR' hn') hb hK hR hn
        | false => rw [hb] at hK; exact any_ok hN hC' hC hmo hd (fun E' st' a' w' hK' hR' hn' => hQ .normal st' hK' E' a' w' hR' hn') hK hR hn
    | false => exact wp_region_list (opsJ_ok hC (fun E' st' a' w' hK' hR' hn' => hQ .normal st' hK' E' a' w' hR' hn') hd hR hn hK)
  | .seq x y, K, Q, st, E, a, w, hd, hL, hQ, hK, hR, hn => by
    simp only [dstsOk, Bool.and_eq_true] at hd
    refine wp_seq (codeJ_ok hC hN hC' hmo hd.1 (fun c' Q' h => hL c' Q' (.inl h)) ?_ hK hR hn)
    exact hQ.then fun st' hK' E' a' w' hR' hn' => codeJ_ok hC hN hC' hmo hd.2 (fun c' Q' h => hL c' Q' (.inr h)) hQ hK' hR' hn'
  | .cond c x y, K, Q, st, E, a, w, hd, hL, hQ, hK, hR, hn => by
    simp only [dstsOk, Bool.and_eq_true] at hd
    obtain ⟨b, hb, hK⟩ := asBoolK_inv hK
    have hc := opnd_ok hR c
    rw [hb] at hc
    refine wp_cond (RV_bool hc) ?_
    cases b with
    | true => exact codeJ_ok hC hN hC' hmo hd.1 (fun c' Q' h => hL c' Q' (.inl h)) hQ hK hR hn
    | false => exact codeJ_ok hC hN hC' hmo hd.2 (fun c' Q' h => hL c' Q' (.inr h)) hQ hK hR hn
  | .block id c, K, Q, st, E, a, w, hd, hL, hQ, hK, hR, hn => by
    simp only [codeJ] at hK
    split at hK
    · rename_i g hg
      cases hb : Nat.beq g.b id with
      | false => rw [hb] at hK; cases hK
      | true =>
        rw [hb] at hK
        exact wp_block (grow_ok hg (Nat.eq_of_beq_eq_true hb) hd (fun st' hK' E' a' w' hR' hn' => hQ .normal st' hK' E' a' w' hR' hn') hK hR hn)
    · exact wp_block (codeJ_ok hC hN hC' hmo hd hL hQ.blk hK hR hn)
  | .loop c, K, Q, st, E, a, w, hd, hL, hQ, hK, hR, hn => loop_of_round (hL c Q (.inl ⟨rfl, rfl⟩) st hK E a w hR hn)
  | .exit id, K, Q, st, E, a, w, hd, hL, hQ, hK, hR, hn => wp_exit (hQ (.exit id) st hK E a w hR hn)
  | .ret, K, Q, st, E, a, w, hd, hL, hQ, hK, hR, hn => wp_ret (hQ .ret st hK E a w hR hn)
  | .rangeFunc .., K, Q, st, E, a, w, hd, hL, hQ, hK, hR, hn => by cases hK
  | .scope _, K, Q, st, E, a, w, hd, hL, hQ, hK, hR, hn => by cases hK
  | .label _, K, Q, st, E, a, w, hd, hL, hQ, hK, hR, hn => by cases hK
  | .goto _, K, Q, st, E, a, w, hd, hL, hQ, hK, hR, hn => by cases hK
  | .refuse _, K, Q, st, E, a, w, hd, hL, hQ, hK, hR, hn => by cases hK
theorem dsts_at {n : Nat} : ∀ {c : Code} {Q : Exit → Act → World → Prop} {c' : Code} {Q' : Exit → Act → World → Prop}, At P c Q c' Q' → dstsOk n c = true → dstsOk n c' = true
  | .seq x y, Q, c', Q', h, hd => by
    simp only [dstsOk, Bool.and_eq_true] at hd
    rcases h with h | h
    · exact dsts_at h hd.1
    · exact dsts_at h hd.2
  | .cond _ x y, Q, c', Q', h, hd => by
    simp only [dstsOk, Bool.and_eq_true] at hd
    rcases h with h | h
    · exact dsts_at h hd.1
    · exact dsts_at h hd.2
  | .block id c, Q, c', Q', h, hd => dsts_at (c := c) h hd
  | .loop c, Q, c', Q', h, hd => by
    rcases h with ⟨rfl, rfl⟩ | h
    · exact hd
    · exact dsts_at (c := c) h hd
  | .skip, _, _, _, h, _ | .region .., _, _, _, h, _ | .exit _, _, _, _, h, _ | .ret, _, _, _, h, _ | .rangeFunc .., _, _, _, h, _ | .scope _, _, _, _, h, _ | .label _, _, _, _, h, _ | .goto _, _, _, _, h, _ | .refuse _, _, _, _, h, _ => h.elim
theorem allJ_ok {C : CallJ R} {C' : CallJ PK} (hC : CallOK P C) (hN : CallNat C C') (hC' : CallOK P C') (hmo : P.follows .mixedOrders = true) {L : Nat → St → Option R} {n m : Nat} : ∀ {c : Code} {K : JX → St → Option R} {Q : Exit → Act → World → Prop} {c' : Code} {Q' : Exit → Act → World → Prop}, dstsOk n c = true → LOK P S w0 n r L c Q → KOK S w0 n r K Q → At P c Q c' Q' → headId c' = m →
    ∃ K', (c', K') ∈ allJ P C L m c K ∧ KOK S w0 n r K' (Exit.then (LW P c' Q') Q') ∧ LOK P S w0 n r L c' (Exit.then (LW P c' Q') Q')
  | .seq x y, K, Q, c', Q', hd, hL, hQ, h, hm => by
    simp only [dstsOk, Bool.and_eq_true] at hd
    rcases h with h | h
    · obtain ⟨K', h1, h2⟩ := allJ_ok hC hN hC' hmo hd.1 (fun c' Q' h => hL c' Q' (.inl h)) (hQ.then fun st' hK' E' a' w' hR' hn' => codeJ_ok hC hN hC' hmo hd.2 (fun c' Q' h => hL c' Q' (.inr h)) hQ hK' hR' hn') h hm
      exact ⟨K', List.mem_append_left _ h1, h2⟩
    · obtain ⟨K', h1, h2⟩ := allJ_ok hC hN hC' hmo hd.2 (fun c' Q' h => hL c' Q' (.inr h)) hQ h hm
      exact ⟨K', List.mem_append_right _ h1, h2⟩
  | .cond _ x y, K, Q, c', Q', hd, hL, hQ, h, hm => by
    simp only [dstsOk, Bool.and_eq_true] at hd
    rcases h with h | h
    · obtain ⟨K', h1, h2⟩ := allJ_ok hC hN hC' hmo hd.1 (fun c' Q' h => hL c' Q' (.inl h)) hQ h hm
      exact ⟨K', List.mem_append_left _ h1, h2⟩
    · obtain ⟨K', h1, h2⟩ := allJ_ok hC hN hC' hmo hd.2 (fun c' Q' h => hL c' Q' (.inr h)) hQ h hm
      exact ⟨K', List.mem_append_right _ h1, h2⟩
  | .block id c, K, Q, c', Q', hd, hL, hQ, h, hm => allJ_ok (c := c) hC hN hC' hmo hd hL hQ.blk h hm
  | .loop c, K, Q, c', Q', hd, hL, hQ, h, hm => by
    have hK' : KOK S w0 n r (andThen (L (headId c)) K) (Exit.then (LW P c Q) Q) := hQ.then fun st' hK E a w hR hn => lw_of_round (hL c Q (.inl ⟨rfl, rfl⟩) st' hK E a w hR hn)
    have hL' : LOK P S w0 n r L c (Exit.then (LW P c Q) Q) := fun c' Q' h => hL c' Q' (.inr h)
    rcases h with ⟨rfl, rfl⟩ | h
    · refine ⟨_, List.mem_append_left _ ?_, hK', hL'⟩
      have : Nat.beq (headId c') m = true := by rw [hm]; exact Nat.beq_refl m
      rw [this]; exact List.mem_singleton.2 rfl
    · obtain ⟨K', h1, h2⟩ := allJ_ok (c := c) hC hN hC' hmo hd hL' hK' h hm
      exact ⟨K', List.mem_append_right _ h1, h2⟩
  | .skip, _, _, _, _, _, _, _, h, _ | .region .., _, _, _, _, _, _, _, h, _ | .exit _, _, _, _, _, _, _, _, h, _ | .ret, _, _, _, _, _, _, _, h, _ | .rangeFunc .., _, _, _, _, _, _, _, h, _ | .scope _, _, _, _, _, _, _, _, h, _ | .label _, _, _, _, _, _, _, _, h, _ | .goto _, _, _, _, _, _, _, _, h, _ | .refuse _, _, _, _, _, _, _, _, h, _ => h.elim
theorem roundJ_ok {C : CallJ R} {C' : CallJ PK} (hC : CallOK P C) (hN : CallNat C C') (hC' : CallOK P C') (hmo : P.follows .mixedOrders = true) {L L' : Nat → St → Option R} {n : Nat} {c : Code} {K : JX → St → Option R} {Q : Exit → Act → World → Prop} (hd : dstsOk n c = true) (hL : LOK P S w0 n r L c Q) (hQ : KOK S w0 n r K Q)
    (hstep : ∀ m st, L' m st = some r → ∀ E a w, Rep S w0 E st a w → a.tmps.size = n → ∃ E' st', roundJ P C L m c K st' = some r ∧ Rep S w0 E' st' a w) : LOK P S w0 n r L' c Q := by
  intro c' Q' hat st hK E a w hR hn
  obtain ⟨E', st', h1, h2⟩ := hstep _ st hK E a w hR hn
  obtain ⟨K', g1, g2, g3⟩ := allJ_ok hC hN hC' hmo hd hL hQ hat rfl
  unfold roundJ at h1
  split at h1
  · rename_i c0 K0 heq
    rw [heq] at g1
    have := List.mem_singleton.1 g1
    cases this
    exact codeJ_ok hC hN hC' hmo (dsts_at hat hd) g3 g2 h1 h2 hn
  · cases h1
end Go.Eng

namespace Go.Eng
variable {R : Type} {P : Program} {S : Sc} {w0 w : World} {E : En} {st : St} {a : Act} {r : R} {H : Nat → Option JObj}
def Sub (E : En) : Prop := ∀ b c, E.im (some true) b = some c → E.im (some false) b = some c
theorem ImAt.weak (hs : Sub E) {esc esc' : Bool} (h : (!esc || esc') = true) {b o : Nat} {us : List Value} (k : ImAt E esc' b o us) : ImAt E esc b o us := by
  cases esc <;> cases esc' <;> first | exact k | (obtain ⟨c, hc, hu⟩ := k; exact ⟨c, hs _ _ hc, hu⟩) | (simp at h)
theorem lst_weak (hs : Sub E) {esc esc' : Bool} (h : (!esc || esc') = true) {e : EK} {l : List e.T} {us : List Value} (k : RC E H (.lst esc' e l) us) : RC E H (.lst esc e l) us := by
  obtain ⟨hml, base, cap, hu, hc, vs, hk, hor⟩ := k
  exact ⟨hml, base, cap, hu, hc, vs, hk, hor.imp id fun ⟨b, o, hb, him⟩ => ⟨b, o, hb, him.weak hs h⟩⟩
theorem lst_nil {esc : Bool} {e : EK} {us : List Value} (h : us = [.slice none 0 0]) : RC E H (.lst esc e []) us :=
  ⟨Nat.zero_le _, none, 0, h, Nat.le_refl _, [], rfl, .inl rfl⟩
mutual
theorem get_RC (hs : Sub E) : ∀ (p : VP) (v : JV) (x : p.T) (us : List Value), p.get v = some x → RC E H v us → RC E H (p.mk x) us
  | .int k, v, x, us, h, hr => by
    cases v <;> simp only [VP.get] at h <;> try (cases h; done)
    split at h
    · rename_i e; subst e; cases h; exact hr
    · cases h
  | .bool, v, x, us, h, hr => by cases v <;> simp only [VP.get] at h <;> cases h; exact hr
  | .str, v, x, us, h, hr => by cases v <;> simp only [VP.get] at h <;> cases h; exact hr
  | .nilp, v, x, us, h, hr => by cases v <;> simp only [VP.get] at h <;> first | exact hr | cases h
  | .nils, v, x, us, h, hr => by cases v <;> simp only [VP.get] at h <;> first | exact hr | cases h
  | .nilf, v, x, us, h, hr => by cases v <;> simp only [VP.get] at h <;> first | exact hr | cases h
  | .junk, v, x, us, h, hr => by
    have : v.flat = true := by cases v <;> first | rfl | (simp [VP.get] at h)
    obtain ⟨y, rfl, hy⟩ := RC_one this hr
    exact ⟨y, rfl, hy⟩
  | .ptr id off, v, x, us, h, hr => by
    cases v <;> simp only [VP.get] at h <;> try (cases h; done)
    rename_i id' off'
    cases hc : (Nat.beq id id' && Nat.beq off off') with
    | false => rw [hc] at h; cases h
    | true =>
      simp only [Bool.and_eq_true] at hc
      have h1 := Nat.eq_of_beq_eq_true hc.1
      have h2 := Nat.eq_of_beq_eq_true hc.2
      subst h1 h2; exact hr
  | .full id, v, x, us, h, hr => by
    cases v <;> simp only [VP.get] at h <;> try (cases h; done)
    rename_i id'
    cases hc : Nat.beq id id' with
    | false => rw [hc] at h; cases h
    | true => have h1 := Nat.eq_of_beq_eq_true hc; subst h1; exact hr
  | .sl id, v, x, us, h, hr => by
    cases v <;> simp only [VP.get] at h <;> try (cases h; done)
    rename_i id' off len
    cases hc : Nat.beq id id' with
    | false => rw [hc] at h; cases h
    | true => rw [hc] at h; cases h; have h1 := Nat.eq_of_beq_eq_true hc; subst h1; exact hr
  | .lst esc e, v, x, us, h, hr => by
    cases v <;> simp only [VP.get] at h <;> try (cases h; done)
    · cases h; exact lst_nil hr
    · rename_i esc' e' l
      cases hc : (!esc || esc') with
      | false => rw [hc] at h; cases h
      | true =>
        rw [hc] at h; simp only [cond_true] at h
        obtain ⟨rfl, h⟩ := castL_inv h
        have h := eq_of_heq h; subst h
        exact lst_weak hs hc hr
  | .fn f caps, v, x, us, h, hr => by
    cases v <;> simp only [VP.get] at h <;> try (cases h; done)
    rename_i f' vs
    cases hc : Nat.beq f f' with
    | false => rw [hc] at h; cases h
    | true =>
      rw [hc] at h; simp only [cond_true] at h
      have h1 := Nat.eq_of_beq_eq_true hc; subst h1
      obtain ⟨cs, hu, hl⟩ := hr
      exact ⟨cs, hu, getL_RVl hs caps vs x _ h hl⟩
  | .arr k n, v, x, us, h, hr => by
    cases v <;> simp only [VP.get] at h <;> try (cases h; done)
    split at h
    · rename_i e; obtain ⟨rfl, rfl⟩ := e; cases h; exact hr
    · cases h
  | .agg ps, v, x, us, h, hr => by
    cases v <;> simp only [VP.get] at h <;> try (cases h; done)
    exact hr.elim
  | .tup ps, v, x, us, h, hr => by
    cases v <;> simp only [VP.get] at h <;> try (cases h; done)
    exact hr.elim
theorem getL_RCs (hs : Sub E) : ∀ (p : VPL) (vs : List JV) (x : p.T) (us : List Value), p.get vs = some x → RCs E H vs us → RCs E H (p.mk x) us
  | .nil, [], x, us, h, hr => hr
  | .nil, _ :: _, x, us, h, hr => by simp [VPL.get] at h
  | .cons p r, [], x, us, h, hr => by simp [VPL.get] at h
  | .cons p r, v :: vs, x, us, h, hr => by
    simp only [VPL.get] at h
    cases h1 : p.get v with
    | none => rw [h1] at h; cases h
    | some y =>
      rw [h1] at h; simp only at h
      cases h2 : r.get vs with
      | none => rw [h2] at h; cases h
      | some z =>
        rw [h2] at h; cases h
        obtain ⟨b, c, e, g1, g2⟩ := hr
        exact ⟨b, c, e, get_RC hs p v y b h1 g1, getL_RCs hs r vs z c h2 g2⟩
theorem getL_RVl (hs : Sub E) : ∀ (p : VPL) (vs : List JV) (x : p.T) (us : List Value), p.get vs = some x → RVl E H vs us → RVl E H (p.mk x) us
  | .nil, [], x, us, h, hr => hr
  | .nil, _ :: _, x, us, h, hr => by simp [VPL.get] at h
  | .cons p r, [], x, us, h, hr => by simp [VPL.get] at h
  | .cons p r, v :: vs, x, us, h, hr => by
    simp only [VPL.get] at h
    cases h1 : p.get v with
    | none => rw [h1] at h; cases h
    | some y =>
      rw [h1] at h; simp only at h
      cases h2 : r.get vs with
      | none => rw [h2] at h; cases h
      | some z =>
        rw [h2] at h; cases h
        obtain ⟨b, c, e, hf, g1, g2⟩ := hr
        have hflat : (p.mk y).flat = true := by
          cases p <;> first
            | rfl
            | (cases v <;> simp only [VP.get] at h1 <;> first | (cases h1; done) | (simp [JV.flat] at hf))
        exact ⟨b, c, e, hflat, get_RC hs p v y [b] h1 g1, getL_RVl hs r vs z c h2 g2⟩
end
theorem get_RV1 (hs : Sub E) {p : VP} {v : JV} {x : p.T} {u : Value} (h : p.get v = some x) (hr : RV1 E H v u) : RV1 E H (p.mk x) u := by
  cases p
  case junk => trivial
  case agg ps =>
    cases v <;> simp only [VP.get] at h <;> try (cases h; done)
    obtain ⟨vs, e, hr⟩ := hr
    exact ⟨vs, e, getL_RCs hs ps _ x _ h hr⟩
  case tup ps =>
    cases v <;> simp only [VP.get] at h <;> try (cases h; done)
    simp only [RV1, RC] at hr
  case arr k n =>
    cases v <;> simp only [VP.get] at h <;> try (cases h; done)
    split at h
    · rename_i e; obtain ⟨rfl, rfl⟩ := e; cases h; exact hr
    · cases h
  all_goals
    refine get_RC (H := H) hs _ v x [u] h ?_
    cases v <;> simp only [VP.get] at h <;> first | (cases h; done) | exact hr
theorem getL_RV1l (hs : Sub E) : ∀ {p : VPL} {vs : List JV} {x : p.T} {us : List Value}, p.get vs = some x → RV1l E H vs us → RV1l E H (p.mk x) us
  | .nil, [], x, us, h, hr => hr
  | .nil, _ :: _, x, us, h, hr => by simp [VPL.get] at h
  | .cons p r, [], x, us, h, hr => by simp [VPL.get] at h
  | .cons p r, v :: vs, x, us, h, hr => by
    simp only [VPL.get] at h
    cases h1 : p.get v with
    | none => rw [h1] at h; cases h
    | some y =>
      rw [h1] at h; simp only at h
      cases h2 : r.get vs with
      | none => rw [h2] at h; cases h
      | some z =>
        rw [h2] at h; cases h
        obtain ⟨b, c, e, g1, g2⟩ := hr
        exact ⟨b, c, e, get_RV1 hs h1 g1, getL_RV1l hs h2 g2⟩
theorem get_RV (hs : Sub E) {p : VP} {v : JV} {x : p.T} {u : Value} (h : p.get v = some x) (hr : RV E H v u) : RV E H (p.mk x) u := by
  by_cases ht : ∃ vs, v = .tup vs
  · obtain ⟨vs, rfl⟩ := ht
    cases p <;> simp only [VP.get] at h <;> try (cases h; done)
    obtain ⟨xs, e, hr⟩ := hr
    exact ⟨xs, e, getL_RV1l hs h hr⟩
  · have hv : ∀ q, v ≠ .tup q := fun q e => ht ⟨q, e⟩
    rw [RV_tup hv] at hr
    have := get_RV1 hs h hr
    rwa [RV_tup]
    intro q
    cases p <;> simp only [VP.mk] <;> first | simp | skip
    cases v <;> simp only [VP.get] at h <;> first | (cases h; done) | exact (hv _ rfl).elim
theorem getL_RVL (hs : Sub E) : ∀ {p : VPL} {vs : List JV} {x : p.T} {us : List Value}, p.get vs = some x → RVL E H vs us → RVL E H (p.mk x) us
  | .nil, [], x, us, h, hr => hr
  | .nil, _ :: _, x, us, h, hr => by simp [VPL.get] at h
  | .cons p r, [], x, us, h, hr => by simp [VPL.get] at h
  | .cons p r, v :: vs, x, us, h, hr => by
    simp only [VPL.get] at h
    cases h1 : p.get v with
    | none => rw [h1] at h; cases h
    | some y =>
      rw [h1] at h; simp only at h
      cases h2 : r.get vs with
      | none => rw [h2] at h; cases h
      | some z =>
        rw [h2] at h; cases h
        obtain ⟨b, c, e, g1, g2⟩ := hr
        exact ⟨b, c, e, get_RV hs h1 g1, getL_RVL hs h2 g2⟩
end Go.Eng

namespace Go.Eng
variable {R : Type} {P : Program} {S : Sc} {w0 w : World} {E : En} {st : St} {a : Act} {r : R} {H : Nat → Option JObj} {nx : Nat}
structure Grew (S : Sc) (w0 w : World) (E : En) (H : Nat → Option JObj) (E' : En) (H' : Nat → Option JObj) (nx' : Nat) : Prop where
  rep : RepH S w0 E' H' nx' w
  goes : Goes some E H E' H'
  im : E'.im = E.im
  phi : ∀ i, i < E.nx → E'.φ i = E.φ i
  live : ∀ i, i < E.nx → (H' i = none ↔ H i = none)
  rwf : ∀ i o o', i < E.nx → H i = some o → H' i = some o' → o'.rw = o.rw
theorem Grew.refl (h : RepH S w0 E H nx w) : Grew S w0 w E H E H nx :=
  ⟨h, ⟨fun id i hn e => by cases e; exact ⟨hn, rfl, .inr rfl⟩, fun _ _ _ h => h⟩, rfl, fun _ _ => rfl, fun _ _ => Iff.rfl, fun i o o' _ h1 h2 => by rw [h1] at h2; cases h2; rfl⟩
theorem Grew.nx_le {E' : En} {H' : Nat → Option JObj} {nx' : Nat} (h : Grew S w0 w E H E' H' nx') : E.nx ≤ E'.nx := by
  rcases Nat.lt_or_ge E'.nx E.nx with h' | h'
  · have := (h.goes.at_ E'.nx E'.nx h' rfl).1; omega
  · exact h'
theorem Grew.trans {E' E'' : En} {H' H'' : Nat → Option JObj} {nx' nx'' : Nat} (h : Grew S w0 w E H E' H' nx') (k : Grew S w0 w E' H' E'' H'' nx'') : Grew S w0 w E H E'' H'' nx'' := by
  refine ⟨k.rep, ⟨fun id i hn e => ?_, fun esc b c hc => k.goes.im _ _ _ (h.goes.im _ _ _ hc)⟩, k.im.trans h.im, fun i hi => (k.phi i (by have := h.nx_le; omega)).trans (h.phi i hi), fun i hi => (k.live i (by have := h.nx_le; omega)).trans (h.live i hi), fun i o o' hi h1 h2 => ?_⟩
  · cases e
    obtain ⟨a1, a2, a3⟩ := h.goes.at_ id id hn rfl
    obtain ⟨b1, b2, b3⟩ := k.goes.at_ id id a1 rfl
    refine ⟨b1, b2.trans a2, ?_⟩
    rcases b3 with b3 | b3
    · exact .inl b3
    · rcases a3 with a3 | a3
      · exact .inl (b3.trans a3)
      · exact .inr (b3.trans a3)
  · cases hm : H' i with
    | none => rw [(h.live i hi).1 hm] at h1; cases h1
    | some o1 => exact (k.rwf i o1 o' (by have := h.nx_le; omega) hm h2).trans (h.rwf i o o1 hi h1 hm)
theorem Grew.RC {E' : En} {H' : Nat → Option JObj} {nx' : Nat} (h : Grew S w0 w E H E' H' nx') {v : JV} {us : List Value} (k : RC E H v us) : RC E' H' v us := by
  have := RC_ren h.goes v us k; rwa [ren_some] at this
theorem Grew.RCs {E' : En} {H' : Nat → Option JObj} {nx' : Nat} (h : Grew S w0 w E H E' H' nx') {v : List JV} {us : List Value} (k : RCs E H v us) : RCs E' H' v us := by
  have := RCs_ren h.goes v us k; rwa [renL_some] at this
theorem Grew.RV {E' : En} {H' : Nat → Option JObj} {nx' : Nat} (h : Grew S w0 w E H E' H' nx') {v : JV} {u : Value} (k : RV E H v u) : RV E' H' v u := by
  have := RV_ren h.goes k; rwa [ren_some] at this
theorem Grew.RVL {E' : En} {H' : Nat → Option JObj} {nx' : Nat} (h : Grew S w0 w E H E' H' nx') : ∀ {v : List JV} {us : List Value}, RVL E H v us → RVL E' H' v us
  | [], _, k => k
  | _ :: _, _, ⟨v, b, e, h1, h2⟩ => ⟨v, b, e, h.RV h1, h.RVL h2⟩
theorem grew_nil (h : RepH S w0 E H nx w) (e : EK) : Grew S w0 w E H (E.add ⟨0, 0, 0⟩) (upd H nx (some (.row e [] true))) (nx + 1) :=
  ⟨h.add ⟨0, 0, 0⟩ (.row e [] true) rfl [] ⟨rfl, Nat.zero_le _⟩ rfl rfl rfl rfl (fun _ _ => rfl) (.inl ⟨rfl, rfl⟩) (fun h => absurd h (Nat.lt_irrefl _)),
   goes_add h _ _, rfl, fun i hi => upd_ne _ _ (by omega), fun i hi => by rw [upd_ne _ _ (by rw [h.nx_] at hi; omega)], fun i o o' hi h1 h2 => by
    rw [upd_ne _ _ (by rw [h.nx_] at hi; omega), h1] at h2; cases h2; rfl⟩
theorem full_nil (hn : E.nx = nx) (e : EK) {us : List Value} (hu : us = [.slice none 0 0]) : RC (E.add ⟨0, 0, 0⟩) (upd H nx (some (.row e [] true))) (.full nx) us := by
  refine ⟨by show nx < E.nx + 1; rw [hn]; exact Nat.lt_succ_self _, _, hu, rfl, fun e' n' hs => ?_⟩
  rw [upd_same] at hs; cases hs
  have : (E.add ⟨0, 0, 0⟩).φ nx = ⟨0, 0, 0⟩ := by rw [← hn]; exact upd_same _ _ _
  rw [this]; exact slOK_nil rfl
mutual
theorem coe_ok (os : List OP) : ∀ (p : VP) (v : JV) (st : St) (E : En), RepH S w0 E st.H st.nx w → ∃ E', Grew S w0 w E st.H E' (coe os p v st).2.H (coe os p v st).2.nx ∧ (coe os p v st).2.env = st.env ∧ (∀ i, i < st.nx → (coe os p v st).2.H i = st.H i) ∧ (∀ I us, RC (E.wim I) st.H v us → RC (E'.wim I) (coe os p v st).2.H (coe os p v st).1 us) ∧
    (∀ I x, RV1 (E.wim I) st.H v x → RV1 (E'.wim I) (coe os p v st).2.H (coe os p v st).1 x) ∧ (∀ I x, RV (E.wim I) st.H v x → RV (E'.wim I) (coe os p v st).2.H (coe os p v st).1 x)
  | p, v, st, E, h => by
    have triv : ∀ {v : JV} {st : St} {E : En}, RepH S w0 E st.H st.nx w → ∃ E', Grew S w0 w E st.H E' (v, st).2.H (v, st).2.nx ∧ (v, st).2.env = st.env ∧ (∀ i, i < st.nx → (v, st).2.H i = st.H i) ∧ (∀ I us, RC (E.wim I) st.H v us → RC (E'.wim I) (v, st).2.H (v, st).1 us) ∧
        (∀ I x, RV1 (E.wim I) st.H v x → RV1 (E'.wim I) (v, st).2.H (v, st).1 x) ∧ (∀ I x, RV (E.wim I) st.H v x → RV (E'.wim I) (v, st).2.H (v, st).1 x) :=
      fun h => ⟨_, .refl h, rfl, fun _ _ => rfl, fun _ _ k => k, fun _ _ k => k, fun _ _ k => k⟩
    cases p with
    | full id =>
      cases v with
      | nils =>
        unfold coe
        split
        · rename_i e rw ho
          refine ⟨_, grew_nil h e, rfl, fun i hi => upd_ne _ _ (by omega), fun I us k => full_nil (E := E.wim I) h.nx_ e k, fun I x k => full_nil (E := E.wim I) h.nx_ e k, fun I x k => full_nil (E := E.wim I) h.nx_ e k⟩
        · exact triv h
      | _ => exact triv h
    | agg ps =>
      cases v with
      | agg vs =>
        obtain ⟨E', g1, g2, g0, g3, g4⟩ := coeL_ok os ps vs st E h
        unfold coe
        refine ⟨E', g1, g2, g0, fun I us k => k.elim, ?_, ?_⟩
        · rintro I x ⟨xs, e, k⟩; exact ⟨xs, e, g3 _ _ k⟩
        · rintro I x ⟨xs, e, k⟩; exact ⟨xs, e, g3 _ _ k⟩
      | _ => exact triv h
    | tup ps =>
      cases v with
      | tup vs =>
        obtain ⟨E', g1, g2, g0, g3, g4, g5⟩ := coeL_ok os ps vs st E h
        unfold coe
        refine ⟨E', g1, g2, g0, fun I us k => k.elim, fun I x k => ?_, ?_⟩
        · simp only [RV1, Go.Eng.RC] at k
        · rintro I x ⟨xs, e, k⟩; exact ⟨xs, e, g4 _ _ k⟩
      | _ => exact triv h
    | _ => exact triv h
theorem coeL_ok (os : List OP) : ∀ (p : VPL) (vs : List JV) (st : St) (E : En), RepH S w0 E st.H st.nx w → ∃ E', Grew S w0 w E st.H E' (coeL os p vs st).2.H (coeL os p vs st).2.nx ∧ (coeL os p vs st).2.env = st.env ∧ (∀ i, i < st.nx → (coeL os p vs st).2.H i = st.H i) ∧ (∀ I us, RCs (E.wim I) st.H vs us → RCs (E'.wim I) (coeL os p vs st).2.H (coeL os p vs st).1 us) ∧
    (∀ I us, RV1l (E.wim I) st.H vs us → RV1l (E'.wim I) (coeL os p vs st).2.H (coeL os p vs st).1 us) ∧ (∀ I us, RVL (E.wim I) st.H vs us → RVL (E'.wim I) (coeL os p vs st).2.H (coeL os p vs st).1 us)
  | .nil, vs, st, E, h => by
    have : coeL os .nil vs st = (vs, st) := by cases vs <;> rfl
    rw [this]; exact ⟨_, .refl h, rfl, fun _ _ => rfl, fun _ _ k => k, fun _ _ k => k, fun _ _ k => k⟩
  | .cons p ps, [], st, E, h => ⟨_, .refl h, rfl, fun _ _ => rfl, fun _ _ k => k, fun _ _ k => k, fun _ _ k => k⟩
  | .cons p ps, v :: vs, st, E, h => by
    obtain ⟨E1, a1, a2, a0, a3, a5, a6⟩ := coe_ok os p v st E h
    obtain ⟨E2, b1, b2, b0, b3, b4, b5⟩ := coeL_ok os ps vs (coe os p v st).2 E1 a1.rep
    simp only [coeL]
    refine ⟨E2, a1.trans b1, b2.trans a2, fun i hi => (b0 i (by have := a1.nx_le; rw [a1.rep.nx_, h.nx_] at this; omega)).trans (a0 i hi), ?_, ?_, ?_⟩
    · rintro I us ⟨x, y, e, h1, h2⟩
      exact ⟨x, y, e, by have := RC_ren (b1.goes.wim I) _ _ (a3 I _ h1); rwa [ren_some] at this, b3 I _ (by have := RCs_ren (a1.goes.wim I) _ _ h2; rwa [renL_some] at this)⟩
    · rintro I us ⟨x, y, e, h1, h2⟩
      exact ⟨x, y, e, by have := RV1_ren (b1.goes.wim I) (a5 I _ h1); rwa [ren_some] at this, b4 I _ (by have := RV1l_ren (a1.goes.wim I) h2; rwa [renL_some] at this)⟩
    · rintro I us ⟨x, y, e, h1, h2⟩
      exact ⟨x, y, e, by have := RV_ren (b1.goes.wim I) (a6 I _ h1); rwa [ren_some] at this, b5 I _ (by have := (a1.goes.wim I).RVL h2; rwa [renL_some] at this)⟩
end
end Go.Eng

namespace Go.Eng
variable {R : Type} {P : Program} {S : Sc} {w0 w : World} {E : En} {st : St} {a : Act} {r : R} {H : Nat → Option JObj} {nx : Nat}
theorem RepH.redo (h : RepH S w0 E H nx w) {id : Nat} {o o' : JObj} (hid : H id = some o) (hrw : o'.rw = o.rw) (hs : shp (some o') = shp (some o)) (hc : ∃ us, Cont E H o' us ∧ (us = [] ∧ (E.φ id).room = 0 ∨ Blk w E (E.φ id) o.rw us)) : RepH S w0 E (upd H id (some o')) nx w := by
  have G : Goes some E H E (upd H id (some o')) := goes_put id hid hs
  have hnew : ∀ i x, upd H id (some o') i = some x → (i = id ∧ x = o') ∨ (i ≠ id ∧ H i = some x) := fun i x hx => by
    by_cases e : i = id
    · subst e; rw [upd_same] at hx; cases hx; exact .inl ⟨rfl, rfl⟩
    · rw [upd_ne _ _ e] at hx; exact .inr ⟨e, hx⟩
  refine ⟨h.keeps, ?_, ?_, ?_, h.imOK, h.imS, h.imSub, ?_, h.nx_, h.mle, h.pin, h.im0, h.shape_go G⟩
  · intro i x hx
    rcases hnew i x hx with ⟨rfl, rfl⟩ | ⟨_, hx⟩
    · obtain ⟨us, h1, h2⟩ := hc
      refine ObjOK_iff.2 ⟨us, ?_, by rw [hrw]; exact h2⟩
      have := h1.ren G; rwa [JObj.ren_some] at this
    · have := (h.obj i x hx).go (w' := w) G (i := i) rfl (fun _ _ => rfl)
      rwa [JObj.ren_some] at this
  · intro i x hx hr hp
    rcases hnew i x hx with ⟨rfl, rfl⟩ | ⟨_, hx⟩
    · exact h.own i o hid (by rw [← hrw]; exact hr) hp
    · exact h.own i x hx hr hp
  · intro i j x y hx hy hrx hry hpx hpy he
    rcases hnew i x hx with ⟨h1, h2⟩ | ⟨_, hx1⟩ <;> rcases hnew j y hy with ⟨h3, h4⟩ | ⟨_, hy1⟩
    · rw [h1, h3]
    · subst h1 h2; exact h.apart i j o y hid hy1 (by rw [← hrw]; exact hrx) hry hpx hpy he
    · subst h3 h4; exact h.apart i j x o hx1 hid hrx (by rw [← hrw]; exact hry) hpx hpy he
    · exact h.apart i j x y hx1 hy1 hrx hry hpx hpy he
  · intro i hi
    have : i ≠ id := fun e => by subst e; rw [h.fresh i hi] at hid; cases hid
    rw [upd_ne _ _ this]; exact h.fresh i hi
theorem grew_redo (h : RepH S w0 E H nx w) {id : Nat} {o o' : JObj} (hid : H id = some o) (hrw : o'.rw = o.rw) (hs : shp (some o') = shp (some o)) (hc : ∃ us, Cont E H o' us ∧ (us = [] ∧ (E.φ id).room = 0 ∨ Blk w E (E.φ id) o.rw us)) : Grew S w0 w E H E (upd H id (some o')) nx :=
  ⟨h.redo hid hrw hs hc, goes_put id hid hs, rfl, fun _ _ => rfl, fun i _ => by
    by_cases e : i = id
    · subst e; rw [upd_same, hid]; simp
    · rw [upd_ne _ _ e], fun i x x' _ h1 h2 => by
    by_cases e : i = id
    · subst e; rw [upd_same] at h2; cases h2; rw [hid] at h1; cases h1; exact hrw
    · rw [upd_ne _ _ e, h1] at h2; cases h2; rfl⟩
theorem coeB_ok (os : List OP) (m : Nat) (ws : List JV) : ∀ (l : List OP) (i : Nat) (st : St) (E : En), RepH S w0 E st.H st.nx w → ∃ E', Grew S w0 w E st.H E' (coeB os m ws l i st).H (coeB os m ws l i st).nx ∧ (coeB os m ws l i st).env = st.env
  | [], i, st, E, h => ⟨E, .refl h, rfl⟩
  | p :: l, i, st, E, h => by
    cases p with
    | row e rw => exact coeB_ok os m ws l (i + 1) st E h
    | gone => exact coeB_ok os m ws l (i + 1) st E h
    | box ps rw =>
      unfold coeB
      split
      · rename_i id _
        split
        · rename_i vs rw' ho
          obtain ⟨E1, g1, g2, g0, g3, _, _⟩ := coeL_ok (w := w) os ps vs st E h
          have hlt : id < st.nx := by
            rcases Nat.lt_or_ge id st.nx with h' | h'
            · exact h'
            · rw [h.fresh id h'] at ho; cases ho
          have ho' := (g0 id hlt).trans ho
          obtain ⟨us, h1, h2⟩ := ObjOK_iff.1 (h.obj id _ ho)
          have hphi := g1.phi id (by rw [h.nx_]; exact hlt)
          have hblk : us = [] ∧ (E1.φ id).room = 0 ∨ Blk w E1 (E1.φ id) (JObj.box vs rw').rw us := by
            rw [hphi]
            refine h2.imp (fun h => h) ?_
            unfold Blk; rw [g1.im]; exact fun h => h
          have gr := grew_redo (o' := .box (coeL os ps vs st).1 rw') g1.rep ho' rfl rfl ⟨us, by have := g3 E.im us h1; rwa [show E1.wim E.im = E1 from by rw [← g1.im]; rfl] at this, hblk⟩
          obtain ⟨E2, k1, k2⟩ := coeB_ok os m ws l (i + 1) ((coeL os ps vs st).2.put id (.box (coeL os ps vs st).1 rw')) E1 gr.rep
          exact ⟨E2, (g1.trans gr).trans k1, k2.trans g2⟩
        · exact coeB_ok os m ws l (i + 1) st E h
      · exact coeB_ok os m ws l (i + 1) st E h
theorem idx_some : ∀ {l : List Nat} {i k : Nat}, idx l i = some k → l[k]? = some i
  | [], i, k, h => by simp [idx] at h
  | j :: r, i, k, h => by
    simp only [idx] at h
    cases hb : Nat.beq i j with
    | true => rw [hb] at h; cases h; rw [Nat.eq_of_beq_eq_true hb]; rfl
    | false =>
      rw [hb] at h; simp only [cond_false] at h
      split at h
      · rename_i k' hk; cases h; simpa using idx_some hk
      · cases h
theorem idx_lt {l : List Nat} {i k : Nat} (h : idx l i = some k) : k < l.length := by
  have := idx_some h
  rcases Nat.lt_or_ge k l.length with h' | h'
  · exact h'
  · rw [List.getElem?_eq_none h'] at this; cases this
theorem listAt_map {α β : Type} (l : List α) (f : α → Option β) (i : Nat) : listAt (l.map f) i = (l[i]?).bind f := by
  unfold listAt; rw [List.getElem?_map]
  cases l[i]? <;> rfl
theorem OPL_get : ∀ {os : List OP} {l : List (Option JObj)} {y : OPL.T os}, OPL.get os l = some y → l.length = os.length ∧ ∀ i o', listAt (OPL.mk os y) i = some o' → ∃ p o, os[i]? = some p ∧ l[i]? = some (some o) ∧ shp (some o') = shp (some o) ∧ o'.rw = p.rw ∧ (p.rw = true → o.rw = true) ∧
    ∀ (E : En) (H : Nat → Option JObj) us, Sub E → Cont E H o us → Cont E H o' us
  | [], [], y, h => ⟨rfl, fun i o' h => by simp [OPL.mk, listAt] at h⟩
  | [], _ :: _, y, h => by simp [OPL.get] at h
  | _ :: _, [], y, h => by simp [OPL.get] at h
  | p :: os, o :: l, y, h => by
    simp only [OPL.get] at h
    cases h1 : p.get o with
    | none => rw [h1] at h; cases h
    | some x =>
      rw [h1] at h; simp only at h
      cases h2 : OPL.get os l with
      | none => rw [h2] at h; cases h
      | some z =>
        rw [h2] at h; cases h
        obtain ⟨e1, e2⟩ := OPL_get h2
        refine ⟨by simp [e1], fun i o' hi => ?_⟩
        cases i with
        | succ i =>
          have : listAt (OPL.mk os z) i = some o' := by simpa [OPL.mk, listAt] using hi
          obtain ⟨p', o2, q⟩ := e2 i o' this
          exact ⟨p', o2, by simpa using q⟩
        | zero =>
          have hi : p.mk x = some o' := by simpa [OPL.mk, listAt] using hi
          cases p with
          | gone => cases hi
          | box ps rw =>
            cases hi
            cases o with
            | none => cases h1
            | some o =>
              cases o with
              | row e l rw' => cases h1
              | box vs rw' =>
                simp only [OP.get] at h1
                cases hc : (!rw || rw') with
                | false => rw [hc] at h1; cases h1
                | true =>
                  rw [hc] at h1; simp only [cond_true] at h1
                  exact ⟨_, _, rfl, rfl, rfl, rfl, fun e => by cases rw <;> cases rw' <;> simp_all [OP.rw, JObj.rw], fun E H us hs k => getL_RCs hs ps vs x us h1 k⟩
          | row e rw =>
            cases hi
            cases o with
            | none => cases h1
            | some o =>
              cases o with
              | box vs rw' => cases h1
              | row e' l' rw' =>
                simp only [OP.get] at h1
                cases hc : (!rw || rw') with
                | false => rw [hc] at h1; cases h1
                | true =>
                  rw [hc] at h1; simp only [cond_true] at h1
                  obtain ⟨rfl, h1⟩ := castL_inv h1
                  have h1 := eq_of_heq h1; subst h1
                  exact ⟨_, _, rfl, rfl, rfl, rfl, fun e => by cases rw <;> cases rw' <;> simp_all [OP.rw, JObj.rw], fun E H us hs k => k⟩
structure Formed (S : Sc) (w0 w : World) (E2 : En) (H2 : Nat → Option JObj) (order : List Nat) (os : List OP) (y : OPL.T os) : Prop where
  nodup : order.Nodup
  len : order.length = os.length
  obj : ∀ i o', listAt (OPL.mk os y) i = some o' → ∃ p id o us, os[i]? = some p ∧ order[i]? = some id ∧ H2 id = some o ∧ o'.rw = p.rw ∧ (p.rw = true → o.rw = true) ∧ shp (some o') = shp (some o) ∧
    Cont { nx := order.length, φ := fun i => E2.φ (order.getD i 0), im := E2.im } (listAt (OPL.mk os y)) o' us ∧ (us = [] ∧ (E2.φ id).room = 0 ∨ Blk w E2 (E2.φ id) o.rw us)
theorem canonJ_ok {m : Nat} {ps : VPL} {os : List OP} {vs : List JV} {st2 : St} {order : List Nat} {x : ps.T} {y : OPL.T os} (h : RepH S w0 E st.H st.nx w) (hc : canonJ m ps os vs st = some (st2, order, x, y)) :
    ∃ E2, Grew S w0 w E st.H E2 st2.H st2.nx ∧ st2.env = st.env ∧ Formed S w0 w E2 st2.H order os y ∧ (∃ vs1, order = orderJ st2.H m vs1) ∧
      ∀ I, (∀ b c, I (some true) b = some c → I (some false) b = some c) → ∀ us, RVL (E.wim I) st.H vs us → RVL { nx := order.length, φ := fun i => E2.φ (order.getD i 0), im := I } (listAt (OPL.mk os y)) (ps.mk x) us := by
  unfold canonJ at hc
  obtain ⟨E1, g1, g2, g0, g3, g4, g5⟩ := coeL_ok (w := w) os ps vs st E h
  obtain ⟨E2, k1, k2⟩ := coeB_ok os m (coeL os ps vs st).1 os 0 (coeL os ps vs st).2 E1 g1.rep
  simp only at hc
  generalize hst2 : coeB os m (coeL os ps vs st).1 os 0 (coeL os ps vs st).2 = s2 at hc k1 k2
  generalize hord : orderJ s2.H m (coeL os ps vs st).1 = ord at hc
  cases hnd : nodupB ord with
  | false => rw [hnd] at hc; cases hc
  | true =>
    rw [hnd] at hc; simp only [cond_true] at hc
    split at hc
    · rename_i x' hx
      split at hc
      · rename_i y' hy
        simp only [Option.some.injEq, Prod.mk.injEq] at hc
        obtain ⟨rfl, rfl, rfl, rfl⟩ := hc
        have gr := g1.trans k1
        have hnodup := nodupB_iff hnd
        obtain ⟨hlen, hobj⟩ := OPL_get hy
        rw [List.length_map] at hlen
        have hsub : Sub E2 := k1.rep.imSub
        have G : Goes (idx ord) E2 s2.H { nx := ord.length, φ := fun i => E2.φ (ord.getD i 0), im := E2.im } (listAt (OPL.mk os y')) := by
          refine ⟨fun id i hn hi => ?_, fun _ _ _ h => h⟩
          have h1 := idx_some hi
          have hlt := idx_lt hi
          refine ⟨hlt, ?_, ?_⟩
          · show E2.φ (ord.getD i 0) = E2.φ id
            rw [List.getD_eq_getElem?_getD, h1]; rfl
          · cases hl : listAt (OPL.mk os y') i with
            | none => exact .inl rfl
            | some o' =>
              right
              obtain ⟨p, o, _, q2, q3, _⟩ := hobj i o' hl
              rw [List.getElem?_map, h1] at q2
              simp only [Option.map_some, Option.some.injEq] at q2
              cases hH : s2.H id with
              | none => rw [hH] at q2; cases q2
              | some o2 =>
                rw [hH] at q2; simp only [Option.some.injEq] at q2
                rw [q3, ← q2, shp_ren]
        refine ⟨E2, gr, k2.trans g2, ⟨hnodup, hlen, fun i o' hi => ?_⟩, ⟨_, hord.symm⟩, fun I hI us hus => ?_⟩
        · obtain ⟨p, o, q1, q2, q3, q4, q5, q6⟩ := hobj i o' hi
          rw [List.getElem?_map] at q2
          cases hoi : ord[i]? with
          | none => rw [hoi] at q2; cases q2
          | some id =>
            rw [hoi] at q2; simp only [Option.map_some, Option.some.injEq] at q2
            cases hH : s2.H id with
            | none => rw [hH] at q2; cases q2
            | some o2 =>
              rw [hH] at q2; simp only [Option.some.injEq] at q2
              obtain ⟨us, r1, r2⟩ := ObjOK_iff.1 (k1.rep.obj id o2 hH)
              refine ⟨p, id, o2, us, q1, rfl, hH, q4, fun e => ?_, by rw [q3, ← q2, shp_ren], ?_, r2⟩
              · have := q5 e; rw [← q2, rw_ren] at this; exact this
              · have := r1.ren G
                rw [q2] at this
                exact q6 _ _ us (fun b c hb => hsub b c hb) this
        · have h1 : RVL (E2.wim I) s2.H (coeL os ps vs st).1 us := by have := (k1.goes.wim I).RVL (g5 I us hus); rwa [renL_some] at this
          have h2 : RVL { nx := ord.length, φ := fun i => E2.φ (ord.getD i 0), im := I } (listAt (OPL.mk os y')) (renL (idx ord) (coeL os ps vs st).1) us := (G.wim I).RVL h1
          exact getL_RVL (E := { nx := ord.length, φ := fun i => E2.φ (ord.getD i 0), im := I }) hI hx h2
      · cases hc
    · cases hc
def En.at (E : En) (order : List Nat) : En := { nx := order.length, φ := fun i => E.φ (order.getD i 0), im := E.im }
theorem getD_of {l : List Nat} {i id : Nat} (h : l[i]? = some id) : l.getD i 0 = id := by rw [List.getD_eq_getElem?_getD, h]; rfl
theorem lt_of_get? {α : Type} {l : List α} {i : Nat} {x : α} (h : l[i]? = some x) : i < l.length := by
  rcases Nat.lt_or_ge i l.length with h' | h'
  · exact h'
  · rw [List.getElem?_eq_none h'] at h; cases h
theorem nodup_inj : ∀ {l : List Nat}, l.Nodup → ∀ {i j k : Nat}, l[i]? = some k → l[j]? = some k → i = j
  | [], _, i, j, k, hi, _ => by simp at hi
  | x :: l, h, i, j, k, hi, hj => by
    obtain ⟨h1, h2⟩ := List.nodup_cons.1 h
    cases i with
    | zero =>
      cases j with
      | zero => rfl
      | succ j =>
        simp only [List.getElem?_cons_zero, Option.some.injEq] at hi
        simp only [List.getElem?_cons_succ] at hj
        exact absurd (List.mem_of_getElem? hj) (by rw [← hi]; exact h1)
    | succ i =>
      cases j with
      | zero =>
        simp only [List.getElem?_cons_zero, Option.some.injEq] at hj
        simp only [List.getElem?_cons_succ] at hi
        exact absurd (List.mem_of_getElem? hi) (by rw [← hj]; exact h1)
      | succ j =>
        simp only [List.getElem?_cons_succ] at hi hj
        rw [nodup_inj h2 hi hj]
theorem mk_len : ∀ {os : List OP} {y : OPL.T os}, (OPL.mk os y).length = os.length
  | [], _ => rfl
  | _ :: _, y => by simp [OPL.mk, mk_len]
theorem listAt_lt {α : Type} {l : List (Option α)} {i : Nat} {x : α} (h : listAt l i = some x) : i < l.length := by
  unfold listAt at h
  rcases Nat.lt_or_ge i l.length with h' | h'
  · exact h'
  · rw [List.getElem?_eq_none h'] at h; cases h
theorem Formed.rep {E2 : En} {H2 : Nat → Option JObj} {nx2 : Nat} {order : List Nat} {os : List OP} {y : OPL.T os} (F : Formed S w0 w E2 H2 order os y) (h : RepH S w0 E2 H2 nx2 w)
    (hm : S.m ≤ order.length) (hpin : ∀ i, i < S.m → order[i]? = some i) (hrw : ∀ i p id o, os[i]? = some p → order[i]? = some id → H2 id = some o → listAt (OPL.mk os y) i ≠ none → p.rw = o.rw) : RepH S w0 (E2.at order) (listAt (OPL.mk os y)) order.length w := by
  have hphi : ∀ {i id : Nat}, order[i]? = some id → (E2.at order).φ i = E2.φ id := fun hi => by show E2.φ (order.getD _ 0) = _; rw [getD_of hi]
  refine ⟨h.keeps, ?_, ?_, ?_, h.imOK, h.imS, h.imSub, ?_, rfl, hm, fun i hi => (hphi (hpin i hi)).trans (h.pin i hi), h.im0, fun i hi => ?_⟩
  · intro i o' hi
    obtain ⟨p, id, o, us, q1, q2, q3, q4, q5, q8, q6, q7⟩ := F.obj i o' hi
    refine ObjOK_iff.2 ⟨us, q6, ?_⟩
    rw [hphi q2, q4, hrw i p id o q1 q2 q3 (by rw [hi]; simp)]
    exact q7
  · intro i o' hi hr hp
    obtain ⟨p, id, o, us, q1, q2, q3, q4, q5, q8, q6, q7⟩ := F.obj i o' hi
    rw [hphi q2] at hp ⊢
    exact h.own id o q3 (q5 (by rw [← q4]; exact hr)) hp
  · intro i j x z hx hz hrx hrz hpx hpz he
    obtain ⟨p, id, o, us, q1, q2, q3, q4, q5, q8, q6, q7⟩ := F.obj i x hx
    obtain ⟨p', id', o', us', s1, s2, s3, s4, s5, s8, s6, s7⟩ := F.obj j z hz
    rw [hphi q2] at hpx he; rw [hphi s2] at hpz he
    have := h.apart id id' o o' q3 s3 (q5 (by rw [← q4]; exact hrx)) (s5 (by rw [← s4]; exact hrz)) hpx hpz he
    subst this
    exact nodup_inj F.nodup q2 s2
  · intro i hi
    cases hl : listAt (OPL.mk os y) i with
    | none => rfl
    | some o =>
      have := listAt_lt hl
      rw [mk_len, ← F.len] at this
      omega
  · cases hl : listAt (OPL.mk os y) i with
    | none => exact .inl rfl
    | some o' =>
      obtain ⟨p, id, o, us, q1, q2, q3, q4, q5, q8, q6, q7⟩ := F.obj i o' hl
      rw [hpin i hi] at q2; cases q2
      rcases h.shape i hi with h1 | h1
      · rw [q3] at h1; cases o <;> cases h1
      · right; rw [q8, ← q3]; exact h1
end Go.Eng

namespace Go.Eng
variable {R : Type} {P : Program} {S : Sc} {w0 w : World} {E : En} {st : St} {a : Act} {r : R} {H : Nat → Option JObj} {nx : Nat}
theorem reach_pre (H : Nat → Option JObj) : ∀ (n : Nat) (l acc : List Nat), ∃ t, reach H n l acc = acc ++ t
  | 0, l, acc => ⟨[], by cases l <;> simp [reach]⟩
  | n + 1, [], acc => ⟨[], by simp [reach]⟩
  | n + 1, i :: r, acc => by
    unfold reach
    cases memB i acc with
    | true => exact reach_pre H n r acc
    | false =>
      simp only [cond_false]
      split
      · obtain ⟨t, e⟩ := reach_pre H n (_ ++ r) (acc ++ [i])
        exact ⟨i :: t, by rw [e]; simp⟩
      · exact reach_pre H n r acc
theorem order_pin {m : Nat} {vs : List JV} {i : Nat} (hi : i < m) : (orderJ H m vs)[i]? = some i := by
  unfold orderJ
  obtain ⟨t, e⟩ := reach_pre H 99 ((List.range m).flatMap (objIds H) ++ idsL vs) (List.range m)
  rw [e, List.getElem?_append_left (by simpa using hi)]
  simp [hi]
theorem order_le {m : Nat} {vs : List JV} : m ≤ (orderJ H m vs).length := by
  unfold orderJ
  obtain ⟨t, e⟩ := reach_pre H 99 ((List.range m).flatMap (objIds H) ++ idsL vs) (List.range m)
  rw [e]; simp
theorem eqB_iff {a b : Bool} (h : eqB a b = true) : a = b := by cases a <;> cases b <;> first | rfl | cases h
theorem rwOK_at : ∀ {os : List OP} {order : List Nat}, rwOK H os order = true → ∀ (i : Nat) (p : OP) (id : Nat) (o : JObj), os[i]? = some p → order[i]? = some id → H id = some o → p ≠ .gone → p.rw = o.rw
  | [], _, _, i, p, id, o, h1, _, _, _ => by simp at h1
  | _ :: _, [], _, i, p, id, o, _, h2, _, _ => by simp at h2
  | q :: os, j :: order, h, i, p, id, o, h1, h2, h3, h4 => by
    simp only [rwOK, Bool.and_eq_true] at h
    cases i with
    | succ i => exact rwOK_at h.2 i p id o (by simpa using h1) (by simpa using h2) h3 h4
    | zero =>
      simp only [List.getElem?_cons_zero, Option.some.injEq] at h1 h2
      subst h1 h2
      have h := h.1
      rw [h3] at h
      cases q with
      | gone => exact (h4 rfl).elim
      | box ps rw => cases o <;> exact eqB_iff h
      | row e rw => cases o <;> exact eqB_iff h
theorem mk_gone : ∀ {os : List OP} {y : OPL.T os} {i : Nat}, os[i]? = some .gone → listAt (OPL.mk os y) i = none
  | [], _, i, h => by simp at h
  | p :: os, y, 0, h => by
    simp only [List.getElem?_cons_zero, Option.some.injEq] at h; subst h; rfl
  | p :: os, y, i + 1, h => by
    have := mk_gone (os := os) (y := y.2) (i := i) (by simpa using h)
    simpa [OPL.mk, listAt] using this
theorem canon_rep {ps : VPL} {os : List OP} {vs : List JV} {st2 : St} {order : List Nat} {x : ps.T} {y : OPL.T os} (h : RepH S w0 E st.H st.nx w) (hc : canonJ S.m ps os vs st = some (st2, order, x, y)) (hr : rwOK st2.H os order = true) :
    ∃ E', RepH S w0 E' (listAt (OPL.mk os y)) os.length w ∧ ∀ us, RVL E st.H vs us → RVL E' (listAt (OPL.mk os y)) (ps.mk x) us := by
  obtain ⟨E2, g1, g2, F, ⟨vs1, ho⟩, hv⟩ := canonJ_ok h hc
  have hrep := F.rep (S := S) g1.rep (by rw [ho]; exact order_le) (fun i hi => by rw [ho]; exact order_pin hi) (fun i p id o h1 h2 h3 h4 => rwOK_at hr i p id o h1 h2 h3 fun e => by subst e; exact h4 (mk_gone h1))
  refine ⟨E2.at order, by rw [← F.len]; exact hrep, fun us hus => ?_⟩
  have := hv E.im h.imSub us hus
  rw [← g1.im] at this; exact this
theorem look_ok {f : Nat → Value} : ∀ {slots : List Nat} {vs : List JV}, RVL E H vs (slots.map f) → ∀ i, RV E H (lookL slots vs i) (f i)
  | [], [], _, i => trivial
  | [], _ :: _, h, i => by obtain ⟨_, _, h, _⟩ := h; cases h
  | _ :: _, [], h, i => trivial
  | s :: ss, v :: vs, ⟨u, b, e, h1, h2⟩, i => by
    simp only [List.map_cons, List.cons.injEq] at e
    obtain ⟨rfl, rfl⟩ := e
    unfold lookL
    cases hb : Nat.beq i s with
    | true => rw [Nat.eq_of_beq_eq_true hb]; exact h1
    | false => exact look_ok h2 i
theorem slots_ok (h : Rep S w0 E st a w) : ∀ (l : List Nat), RVL E st.H (l.map st.env) (l.map fun i => a.tmps.getD i undef)
  | [] => rfl
  | i :: l => ⟨_, _, rfl, h.env i, slots_ok h l⟩
theorem cut_rep {slots : List Nat} {ps : VPL} {os : List OP} {F : ps.T → OPL.T os → Option R} (h : Rep S w0 E st a w) (hc : cutJ S.m slots ps os F st = some r) :
    ∃ E' x y, F x y = some r ∧ Rep S w0 E' (stAt slots ps os x y) a w := by
  unfold cutJ at hc
  split at hc
  · rename_i st2 order x y hcan
    cases hrw : rwOK st2.H os order with
    | false => rw [hrw] at hc; cases hc
    | true =>
      rw [hrw] at hc
      obtain ⟨E', h1, h2⟩ := canon_rep h.toRepH hcan hrw
      exact ⟨E', x, y, hc, { h1 with env := look_ok (h2 _ (slots_ok h slots)), defers := h.defers }⟩
  · cases hc
theorem Lof_ok {k : Nat} (h : Rep S w0 E st a w) : ∀ {cuts : List (Cut R)} {n : Nat}, Lof S.m k cuts n st = some r → ∃ c ∈ cuts, n = c.id ∧ ∃ E' x y, c.F k x y = some r ∧ Rep S w0 E' (stAt c.slots c.ps c.os x y) a w
  | [], n, hL => by cases hL
  | c :: cuts, n, hL => by
    unfold Lof at hL
    cases hb : Nat.beq n c.id with
    | true =>
      rw [hb] at hL
      exact ⟨c, by simp, Nat.eq_of_beq_eq_true hb, cut_rep h hL⟩
    | false =>
      rw [hb] at hL
      obtain ⟨c', h1, h2⟩ := Lof_ok h hL
      exact ⟨c', by simp [h1], h2⟩
theorem LOK_all {C : CallJ R} {C' : CallJ PK} (hC : CallOK P C) (hN : CallNat C C') (hC' : CallOK P C') (hmo : P.follows .mixedOrders = true) {cuts : List (Cut R)} {n : Nat} {body : Code} {K : JX → St → Option R} {Q : Exit → Act → World → Prop} (hd : dstsOk n body = true) (hQ : KOK S w0 n r K Q)
    (h0 : ∀ c ∈ cuts, ∀ x y, c.F 0 x y = none) (hstep : ∀ c ∈ cuts, ∀ k x y, c.F (k + 1) x y = roundJ P C (Lof S.m k cuts) c.id body K (stAt c.slots c.ps c.os x y)) : ∀ k, LOK P S w0 n r (Lof S.m k cuts) body Q
  | 0 => fun c' Q' hat st hL E a w hR hn => by
    obtain ⟨c, hc, _, E', x, y, hF, _⟩ := Lof_ok hR hL
    rw [h0 c hc] at hF; cases hF
  | k + 1 => roundJ_ok hC hN hC' hmo hd (LOK_all hC hN hC' hmo hd hQ h0 hstep k) hQ fun m st hL E a w hR hn => by
    obtain ⟨c, hc, rfl, E', x, y, hF, hR'⟩ := Lof_ok hR hL
    rw [hstep c hc] at hF
    exact ⟨E', _, hF, hR'⟩
def altGet : (l : List Alt) → AT l → Option ((a : Alt) × Alt.T a)
  | [], _ => none
  | [a], x => some ⟨a, x⟩
  | a :: b :: r, s => match s with
    | .inl x => some ⟨a, x⟩
    | .inr y => altGet (b :: r) y
theorem altK_get {K : JV → List (Option JObj) → Option R} : ∀ {l : List Alt} {z : AT l} {q : (a : Alt) × Alt.T a}, altGet l z = some q → altK K l z = K (q.1.1.mk q.2.1) (OPL.mk q.1.2 q.2.2)
  | [], z, q, h => by cases h
  | [a], z, q, h => by cases h; rfl
  | a :: b :: l, .inl x, q, h => by cases h; rfl
  | a :: b :: l, .inr y, q, h => altK_get (l := b :: l) (z := y) h
theorem altGet_mem : ∀ {l : List Alt} {z : AT l} {q : (a : Alt) × Alt.T a}, altGet l z = some q → q.1 ∈ l
  | [], z, q, h => by cases h
  | [a], z, q, h => by cases h; simp
  | a :: b :: l, .inl x, q, h => by cases h; simp
  | a :: b :: l, .inr y, q, h => List.mem_cons_of_mem _ (altGet_mem (l := b :: l) (z := y) h)
def FnOK (P : Program) (f : FuncId) (pin : VPL) (os : List OP) (alts : List Alt) (F : pin.T → OPL.T os → Option (AT alts)) : Prop :=
  ∀ x y z, F x y = some z → ∀ (S : Sc) w E margs, S.m = os.length → RepH S w E (listAt (OPL.mk os y)) os.length w → RVL E (listAt (OPL.mk os y)) (pin.mk x) margs →
    ∃ fn, P.funcs[f]? = some fn ∧ fn.body.isSome = true ∧ fn.name ≠ "runtime.NumGoroutine" ∧ Calls P f margs.toArray w fun e w' => ∃ v, e = .returned v ∧
      ∃ E' q, altGet alts z = some q ∧ RV E' (listAt (OPL.mk q.1.2 q.2.2)) (q.1.1.mk q.2.1) v ∧ RepH S w E' (listAt (OPL.mk q.1.2 q.2.2)) q.1.2.length w'
theorem retA_ok {v : JV} : ∀ {l : List Alt} {f : AT l → R}, retA S.m v st l f = some r → RepH S w0 E st.H st.nx w → ∃ z q E', r = f z ∧ altGet l z = some q ∧ RepH S w0 E' (listAt (OPL.mk q.1.2 q.2.2)) q.1.2.length w ∧ ∀ u, RV E st.H v u → RV E' (listAt (OPL.mk q.1.2 q.2.2)) (q.1.1.mk q.2.1) u
  | [], f, h, hR => by cases h
  | [a], f, h, hR => by
    simp only [retA] at h
    split at h
    · rename_i st2 order x y hcan
      cases hrw : rwOK st2.H a.2 order with
      | false => rw [hrw] at h; cases h
      | true =>
        rw [hrw] at h; cases h
        obtain ⟨E', h1, h2⟩ := canon_rep hR hcan hrw
        refine ⟨(x.1, y), ⟨a, (x.1, y)⟩, E', rfl, rfl, h1, fun u hu => ?_⟩
        obtain ⟨u', b, e, h3, _⟩ := h2 [u] ⟨u, [], rfl, hu, rfl⟩
        cases e; exact h3
    · cases h
  | a :: b :: l, f, h, hR => by
    simp only [retA] at h
    split at h
    · rename_i st2 order x y hcan
      cases hrw : rwOK st2.H a.2 order with
      | false => rw [hrw] at h; cases h
      | true =>
        rw [hrw] at h; cases h
        obtain ⟨E', h1, h2⟩ := canon_rep hR hcan hrw
        refine ⟨.inl (x.1, y), ⟨a, (x.1, y)⟩, E', rfl, rfl, h1, fun u hu => ?_⟩
        obtain ⟨u', b, e, h3, _⟩ := h2 [u] ⟨u, [], rfl, hu, rfl⟩
        cases e; exact h3
    · obtain ⟨z, q, E', h1, h2⟩ := retA_ok (l := b :: l) h hR
      exact ⟨.inr z, q, E', h1, h2⟩
def resV (a : Act) (x : ResultVar) : Sem Value := match x with
  | .tmp t => pure (a.tmps.getD t undef)
  | .cell q t => do loadVar t (← asAddr (a.tmps.getD q undef))
theorem cell_ok {t : TypeId} {jv v : JV} {x : Value} (h : Rep S w0 E st a w) (hv : RV E st.H jv x) (hK : viewJ jv st (fun cs => match takeAt cs (sizeJ P t) with
      | some cs => asVal P t cs
      | none => none) = some v) : ∃ y, (loadVar t =<< asAddr x).run P w = .ok y w ∧ RV E st.H v y := by
  obtain ⟨cs, hK, b, o, us, rfl, hr, hcell⟩ := viewJ_ok h hv hK
  split at hK
  · rename_i cs' ht
    obtain ⟨h1, h2⟩ := takeAt_ok ht hr
    obtain ⟨d, hd, hm⟩ := asVal_ok hK h1
    have hload : (loadCells ⟨b, o, none⟩ (sizeJ P t)).run P w = .ok (us.take (sizeJ P t)).toArray w :=
      load_run (fun j x hj => hcell j x (by rw [List.getElem?_take] at hj; split at hj; exact hj; cases hj)) (by rw [List.length_take]; omega)
    show ∃ y, (loadVar t ⟨b, o, none⟩).run P w = .ok y w ∧ RV E st.H v y
    simp only [loadVar, isAgg, Sem.run_bind, Sem.run_pure, Result.andThen_ok, run_underlying hd]
    cases d <;> simp only [Sem.run_pure, Result.andThen_ok, if_true, Bool.false_eq_true, if_false, Sem.run_bind, run_sizeOf hd] at hm ⊢
    case struct fs => rw [hload]; exact ⟨_, rfl, hm⟩
    case array n e => rw [hload]; exact ⟨_, rfl, hm⟩
    all_goals
      obtain ⟨x, hx, hm⟩ := hm
      refine ⟨x, ?_, hm⟩
      have h0 : us[0]? = some x := by
        have : (us.take (sizeJ P t))[0]? = some x := by rw [hx]; rfl
        rw [List.getElem?_take] at this; split at this
        · exact this
        · cases this
      have := hcell 0 x h0
      rw [run_load]
      rw [Nat.add_zero] at this; rw [this]
  · cases hK
theorem resJ_ok (h : Rep S w0 E st a w) : ∀ {l : List ResultVar} {vs : List JV}, resJ P st l = some vs → ∃ xs, (l.mapM (resV a)).run P w = .ok xs w ∧ RV1l E st.H vs xs ∧ RVL E st.H vs xs
  | [], vs, hr => by cases hr; exact ⟨[], rfl, rfl, rfl⟩
  | .cell q t :: l, vs, hr => by
    simp only [resJ] at hr
    split at hr
    · rename_i vs' hr'
      obtain ⟨xs, h1, h2, h3⟩ := resJ_ok h hr'
      split at hr
      · cases hr
      · rename_i v hv hc
        cases hr
        obtain ⟨x, g1, g2⟩ := cell_ok (P := P) h (h.env q) hc
        refine ⟨x :: xs, ?_, ⟨_, _, rfl, ?_, h2⟩, ⟨_, _, rfl, g2, h3⟩⟩
        · rw [List.mapM_cons, Sem.run_bind]
          show Result.andThen ((loadVar t =<< asAddr (a.tmps.getD q undef)).run P w) _ = _
          rw [g1, Result.andThen_ok, Sem.run_bind, h1]; rfl
        · rwa [RV_tup hv] at g2
      · cases hr
    · cases hr
  | .tmp t :: l, vs, hr => by
    simp only [resJ] at hr
    split at hr
    · rename_i vs' hr'
      obtain ⟨xs, h1, h2, h3⟩ := resJ_ok h hr'
      have he := h.env t
      split at hr
      · cases hr
      · rename_i hv
        cases hr
        refine ⟨a.tmps.getD t undef :: xs, ?_, ⟨_, _, rfl, ?_, h2⟩, ⟨_, _, rfl, he, h3⟩⟩
        · rw [List.mapM_cons, Sem.run_bind]
          show Result.andThen (.ok (a.tmps.getD t undef) w) _ = _
          rw [Result.andThen_ok, Sem.run_bind, h1]; rfl
        · rwa [RV_tup hv] at he
    · cases hr
theorem RVL_len : ∀ {vs : List JV} {us : List Value}, RVL E H vs us → us.length = vs.length
  | [], _, h => by simp only [RVL] at h; subst h; rfl
  | _ :: _, _, ⟨_, _, e, _, h⟩ => by subst e; simp [RVL_len h]
theorem results_ok (h : Rep S w0 E st a w) {fn : Func} {vs : List JV} (hr : resJ P st fn.results.toList = some vs) : ∃ v, (results fn a.tmps).run P w = .ok v w ∧ RV E st.H (oneJ vs) v := by
  obtain ⟨xs, h1, h2, h3⟩ := resJ_ok (P := P) h hr
  have hl := RVL_len h3
  have e : results fn a.tmps = (do let vs ← fn.results.mapM (resV a); pure (if h : vs.size = 1 then vs[0] else .tuple vs)) := rfl
  have h4 : (results fn a.tmps).run P w = .ok (if h : xs.toArray.size = 1 then xs.toArray[0] else .tuple xs.toArray) w := by
    rw [e, Array.mapM_eq_mapM_toList, Sem.run_bind, map_eq_pure_bind, Sem.run_bind, h1]; rfl
  refine ⟨_, h4, ?_⟩
  match vs, h2, h3, hl with
  | [], h2, h3, hl => 
    rw [dif_neg (by simp [hl])]; exact ⟨_, rfl, h2⟩
  | [v], h2, h3, hl =>
    obtain ⟨u, b, rfl, h5, h6⟩ := h3
    simp only [RVL] at h6; subst h6
    exact h5
  | v :: v' :: vs, h2, h3, hl =>
    rw [dif_neg (by simp [hl])]; exact ⟨_, rfl, h2⟩
theorem arg_list : ∀ {vs : List JV} {us : List Value} (l : List Value), RVL E H vs us → ∀ i, RV E H (argAt vs i) ((us ++ l).getD i undef)
  | [], us, l, h, i => by cases i <;> trivial
  | v :: vs, us, l, ⟨u, b, e, h1, h2⟩, 0 => by subst e; exact h1
  | v :: vs, us, l, ⟨u, b, e, h1, h2⟩, i + 1 => by
    subst e
    have := arg_list l h2 i
    simpa [argAt] using this
theorem arg_ok {vs : List JV} {us : List Value} (n : Nat) (h : RVL E H vs us) (i : Nat) : RV E H (argAt vs i) ((us.toArray ++ Array.replicate n undef).getD i undef) := by
  have := arg_list (List.replicate n undef) h i
  rw [Array.getD_eq_getD_getElem?]
  rw [List.getD_eq_getElem?_getD] at this
  have e : us.toArray ++ Array.replicate n undef = (us ++ List.replicate n undef).toArray := by simp
  rw [e, List.getElem?_toArray]; exact this
theorem fn_ok {alts : List Alt} {C : CallJ (AT alts)} {C' : CallJ PK} (hC : CallOK P C) (hN : CallNat C C') (hC' : CallOK P C') (hmo : P.follows .mixedOrders = true) {f : FuncId} {fn : Func} {body : Code} {pin : VPL} {os : List OP} {cuts : List (Cut (AT alts))} {k : Nat} {F : pin.T → OPL.T os → Option (AT alts)}
    (hf : P.funcs[f]? = some fn) (hb : fn.body = some body) (hname : fn.name ≠ "runtime.NumGoroutine") (hd : dstsOk fn.ntmps body = true) (hlen : ∀ x, (pin.mk x).length ≤ fn.ntmps)
    (h0 : ∀ c ∈ cuts, ∀ x y, c.F 0 x y = none) (hstep : ∀ c ∈ cuts, ∀ k x y, c.F (k + 1) x y = roundJ P C (Lof os.length k cuts) c.id body (endJ P os.length fn.results.toList alts) (stAt c.slots c.ps c.os x y))
    (hF : ∀ x y, F x y = codeJ P C (Lof os.length k cuts) body (st0 pin os x y) (endJ P os.length fn.results.toList alts)) : FnOK P f pin os alts F := by
  intro x y z hz S w E margs hm hR hargs
  refine ⟨fn, hf, by rw [hb]; rfl, hname, calls_of_wp hf hb ?_⟩
  rw [hF, ← hm] at hz
  have hQ : KOK S w fn.ntmps z (endJ P S.m fn.results.toList alts) (bodyPost P fn fun e w' => ∃ v, e = .returned v ∧ ∃ E' q, altGet alts z = some q ∧ RV E' (listAt (OPL.mk q.1.2 q.2.2)) (q.1.1.mk q.2.1) v ∧ RepH S w E' (listAt (OPL.mk q.1.2 q.2.2)) q.1.2.length w') := by
    intro e st hK E a w' hRep hn
    have fin : ∀ vs, resJ P st fn.results.toList = some vs → retA S.m (oneJ vs) st alts id = some z → a.defers = [] ∧ ∃ v, (results fn a.tmps).run P w' = .ok v w' ∧ ∃ v_1, Ending.returned v = .returned v_1 ∧ ∃ E' q, altGet alts z = some q ∧ RV E' (listAt (OPL.mk q.1.2 q.2.2)) (q.1.1.mk q.2.1) v_1 ∧ RepH S w E' (listAt (OPL.mk q.1.2 q.2.2)) q.1.2.length w' := by
      intro vs h1 h2
      obtain ⟨v, g1, g2⟩ := results_ok (P := P) hRep h1
      obtain ⟨z', q, E', e1, e2, e3, e4⟩ := retA_ok h2 hRep.toRepH
      cases e1
      exact ⟨hRep.defers, v, g1, v, rfl, E', q, e2, e4 v g2, e3⟩
    cases e with
    | exit id => cases hK
    | normal =>
      simp only [endJ] at hK
      split at hK
      · rename_i vs h1; exact fin vs h1 hK
      · cases hK
    | ret =>
      simp only [endJ] at hK
      split at hK
      · rename_i vs h1; exact fin vs h1 hK
      · cases hK
  have hl : margs.length = (pin.mk x).length := by
    have : ∀ {vs : List JV} {us : List Value}, RVL E (listAt (OPL.mk os y)) vs us → us.length = vs.length := by
      intro vs
      induction vs with
      | nil => intro us h; simp only [RVL] at h; subst h; rfl
      | cons v vs ih => rintro us ⟨u, b, rfl, _, h⟩; simp [ih h]
    exact this hargs
  have hstep' : ∀ c ∈ cuts, ∀ k x y, c.F (k + 1) x y = roundJ P C (Lof S.m k cuts) c.id body (endJ P S.m fn.results.toList alts) (stAt c.slots c.ps c.os x y) := by rw [hm]; exact hstep
  refine codeJ_ok hC hN hC' hmo hd (LOK_all hC hN hC' hmo hd hQ h0 hstep' k) hQ hz (E := E) ?_ ?_
  · exact { hR with env := arg_ok _ hargs, defers := rfl }
  · have := hlen x
    simp; omega
end Go.Eng

namespace Go.Eng
variable {R : Type} {P : Program} {S : Sc} {w0 w : World} {E : En} {st : St} {a : Act} {r : R} {H : Nat → Option JObj} {nx : Nat}
theorem mk_row {os : List OP} {y : OPL.T os} : ∀ {i : Nat} {o : JObj}, listAt (OPL.mk os y) i = some o → i < os.length ∧ (isRow os[i]? = true → ∀ f, o.ren f = o) := by
  induction os with
  | nil => intro i o h; simp [OPL.mk, listAt] at h
  | cons p os ih =>
    intro i o h
    cases i with
    | zero =>
      refine ⟨by simp, fun hr f => ?_⟩
      simp only [OPL.mk, listAt, List.getElem?_cons_zero] at h
      cases p with
      | box ps rw => simp [isRow] at hr
      | row e rw => simp only [OP.mk, Option.some.injEq] at h; subst h; rfl
      | gone => simp [OP.mk] at h
    | succ i =>
      have h' : listAt (OPL.mk os y.2) i = some o := by simpa [OPL.mk, listAt] using h
      obtain ⟨h1, h2⟩ := ih h'
      exact ⟨by simp; omega, fun hr => h2 (by simpa using hr)⟩
theorem mv_rep {os : List OP} {y : OPL.T os} (h : RepH S w0 E (listAt (OPL.mk os y)) os.length w) (hm : S.m ≤ os.length) :
    ∃ E', RepH S w0 E' (mvH os (listAt (OPL.mk os y))) (os.length + os.length) w ∧ Goes (mvF os) E (listAt (OPL.mk os y)) E' (mvH os (listAt (OPL.mk os y))) := by
  -- where a place came from
  have back : ∀ {j : Nat} {o : JObj}, mvH os (listAt (OPL.mk os y)) j = some o → ∃ i o', listAt (OPL.mk os y) i = some o' ∧ i < os.length ∧ mvF os i = some j ∧ o = o'.ren (mvF os) ∧ (j = i ∧ isRow os[i]? = false ∨ j = os.length + i ∧ isRow os[i]? = true) := fun {j o} hj => by
    unfold mvH at hj
    cases hb : Nat.blt j os.length with
    | true =>
      rw [hb] at hj; simp only [cond_true] at hj
      rw [Nat.blt_eq] at hb
      cases hr : isRow os[j]? with
      | true => rw [hr] at hj; cases hj
      | false =>
        rw [hr] at hj; simp only [cond_false] at hj
        split at hj
        · rename_i o' ho
          cases hj
          exact ⟨j, o', ho, hb, by unfold mvF; rw [hr]; rfl, rfl, .inl ⟨rfl, hr⟩⟩
        · cases hj
    | false =>
      rw [hb] at hj; simp only [cond_false] at hj
      have hge : os.length ≤ j := by
        rcases Nat.lt_or_ge j os.length with h | h
        · rw [← Nat.blt_eq, hb] at h; cases h
        · exact h
      cases hr : isRow os[j - os.length]? with
      | false => rw [hr] at hj; cases hj
      | true =>
        rw [hr] at hj; simp only [cond_true] at hj
        obtain ⟨h1, h2⟩ := mk_row hj
        refine ⟨j - os.length, o, hj, h1, ?_, (h2 hr _).symm, .inr ⟨by omega, hr⟩⟩
        unfold mvF; rw [hr]; show some (os.length + (j - os.length)) = some j; congr 1; omega
  have fwd : ∀ i, i < os.length → ∀ j, mvF os i = some j → mvH os (listAt (OPL.mk os y)) j = (listAt (OPL.mk os y) i).map fun o => o.ren (mvF os) := fun i hi j hj => by
    unfold mvF at hj
    unfold mvH
    cases hr : isRow os[i]? with
    | true =>
      rw [hr] at hj; cases hj
      have e1 : Nat.blt (os.length + i) os.length = false := by
        cases hb : Nat.blt (os.length + i) os.length with
        | false => rfl
        | true => rw [Nat.blt_eq] at hb; omega
      rw [e1]; simp only [cond_false]
      rw [show os.length + i - os.length = i by omega, hr]; simp only [cond_true]
      cases hl : listAt (OPL.mk os y) i with
      | none => rfl
      | some o => rw [Option.map_some, (mk_row hl).2 hr]
    | false =>
      rw [hr] at hj; cases hj
      have e1 : Nat.blt i os.length = true := by rw [Nat.blt_eq]; exact hi
      rw [e1, hr]; simp only [cond_true, cond_false]
      cases listAt (OPL.mk os y) i <;> rfl
  let E' : En := ⟨os.length + os.length, fun j => if j < os.length then E.φ j else E.φ (j - os.length), E.im⟩
  have hφ : ∀ i j, i < os.length → mvF os i = some j → E'.φ j = E.φ i := fun i j hi hj => by
    unfold mvF at hj
    cases hr : isRow os[i]? with
    | true => rw [hr] at hj; cases hj; show (if os.length + i < os.length then _ else _) = _; rw [if_neg (by omega), show os.length + i - os.length = i by omega]
    | false => rw [hr] at hj; cases hj; show (if i < os.length then _ else _) = _; rw [if_pos hi]
  have hshp : ∀ (o : Option JObj), shp (o.map fun o => o.ren (mvF os)) = shp o := fun o => by cases o with
    | none => rfl
    | some o => exact shp_ren _ o
  have G : Goes (mvF os) E (listAt (OPL.mk os y)) E' (mvH os (listAt (OPL.mk os y))) := ⟨fun id i hn hi => by
    rw [h.nx_] at hn
    refine ⟨?_, hφ id i hn hi, .inr (by rw [fwd id hn i hi, hshp])⟩
    unfold mvF at hi
    cases hr : isRow os[id]? with
    | true => rw [hr] at hi; cases hi; show _ < os.length + os.length; omega
    | false => rw [hr] at hi; cases hi; show _ < os.length + os.length; omega, fun _ _ _ h => h⟩
  refine ⟨E', { keeps := h.keeps, obj := ?_, own := ?_, apart := ?_, imOK := h.imOK, imS := h.imS, imSub := h.imSub, fresh := ?_, nx_ := rfl, mle := by omega, pin := ?_, im0 := h.im0, shape := ?_ }, G⟩
  · intro j o hj
    obtain ⟨i, o', h1, h2, h3, rfl, _⟩ := back hj
    exact (h.obj i o' h1).go G (hφ i j h2 h3) (fun _ _ => rfl)
  · intro j o hj hrw hp
    obtain ⟨i, o', h1, h2, h3, rfl, _⟩ := back hj
    rw [hφ i j h2 h3] at hp ⊢
    rw [rw_ren] at hrw
    exact h.own i o' h1 hrw hp
  · intro j1 j2 o1 o2 hj1 hj2 hr1 hr2 hp1 hp2 he
    obtain ⟨i1, o1', a1, a2, a3, rfl, a4⟩ := back hj1
    obtain ⟨i2, o2', b1, b2, b3, rfl, b4⟩ := back hj2
    rw [hφ i1 j1 a2 a3] at hp1 he
    rw [hφ i2 j2 b2 b3] at hp2 he
    rw [rw_ren] at hr1 hr2
    have e := h.apart i1 i2 o1' o2' a1 b1 hr1 hr2 hp1 hp2 he
    subst e
    rw [a3] at b3; cases b3; rfl
  · intro j hj
    cases hh : mvH os (listAt (OPL.mk os y)) j with
    | none => rfl
    | some o =>
      obtain ⟨i, o', _, h2, _, _, h4⟩ := back hh
      omega
  · intro i hi
    show (if i < os.length then _ else _) = _
    rw [if_pos (by omega)]; exact h.pin i hi
  · intro i hi
    rcases h.shape i hi with h1 | h1
    · left
      cases hh : mvH os (listAt (OPL.mk os y)) i with
      | none => rfl
      | some o =>
        obtain ⟨i', o', g1, g2, _, _, g4⟩ := back hh
        have : i' = i := by omega
        subst this; rw [g1] at h1; exact absurd h1 (by cases o' <;> simp [shp])
    · cases hr : isRow os[i]? with
      | true =>
        left
        unfold mvH
        have e1 : Nat.blt i os.length = true := by rw [Nat.blt_eq]; omega
        rw [e1, hr]; rfl
      | false =>
        right
        rw [fwd i (by omega) i (by unfold mvF; rw [hr]; rfl), hshp]; exact h1
theorem fn_okM {alts : List Alt} {C : CallJ (AT alts)} {C' : CallJ PK} (hC : CallOK P C) (hN : CallNat C C') (hC' : CallOK P C') (hmo : P.follows .mixedOrders = true) {f : FuncId} {fn : Func} {body : Code} {pin : VPL} {os : List OP} {cuts : List (Cut (AT alts))} {k : Nat} {F : pin.T → OPL.T os → Option (AT alts)}
    (hf : P.funcs[f]? = some fn) (hb : fn.body = some body) (hname : fn.name ≠ "runtime.NumGoroutine") (hd : dstsOk fn.ntmps body = true) (hlen : ∀ x, (pin.mk x).length ≤ fn.ntmps)
    (h0 : ∀ c ∈ cuts, ∀ x y, c.F 0 x y = none) (hstep : ∀ c ∈ cuts, ∀ k x y, c.F (k + 1) x y = roundJ P C (Lof os.length k cuts) c.id body (endJ P os.length fn.results.toList alts) (stAt c.slots c.ps c.os x y))
    (hF : ∀ x y, F x y = codeJ P C (Lof os.length k cuts) body (st0M pin os x y) (endJ P os.length fn.results.toList alts)) : FnOK P f pin os alts F := by
  intro x y z hz S w E margs hm hR hargs
  refine ⟨fn, hf, by rw [hb]; rfl, hname, calls_of_wp hf hb ?_⟩
  rw [hF, ← hm] at hz
  have hQ : KOK S w fn.ntmps z (endJ P S.m fn.results.toList alts) (bodyPost P fn fun e w' => ∃ v, e = .returned v ∧ ∃ E' q, altGet alts z = some q ∧ RV E' (listAt (OPL.mk q.1.2 q.2.2)) (q.1.1.mk q.2.1) v ∧ RepH S w E' (listAt (OPL.mk q.1.2 q.2.2)) q.1.2.length w') := by
    intro e st hK E a w' hRep hn
    have fin : ∀ vs, resJ P st fn.results.toList = some vs → retA S.m (oneJ vs) st alts id = some z → a.defers = [] ∧ ∃ v, (results fn a.tmps).run P w' = .ok v w' ∧ ∃ v_1, Ending.returned v = .returned v_1 ∧ ∃ E' q, altGet alts z = some q ∧ RV E' (listAt (OPL.mk q.1.2 q.2.2)) (q.1.1.mk q.2.1) v_1 ∧ RepH S w E' (listAt (OPL.mk q.1.2 q.2.2)) q.1.2.length w' := by
      intro vs h1 h2
      obtain ⟨v, g1, g2⟩ := results_ok (P := P) hRep h1
      obtain ⟨z', q, E', e1, e2, e3, e4⟩ := retA_ok h2 hRep.toRepH
      cases e1
      exact ⟨hRep.defers, v, g1, v, rfl, E', q, e2, e4 v g2, e3⟩
    cases e with
    | exit id => cases hK
    | normal =>
      simp only [endJ] at hK
      split at hK
      · rename_i vs h1; exact fin vs h1 hK
      · cases hK
    | ret =>
      simp only [endJ] at hK
      split at hK
      · rename_i vs h1; exact fin vs h1 hK
      · cases hK
  have hl : margs.length = (pin.mk x).length := RVL_len hargs
  have hstep' : ∀ c ∈ cuts, ∀ k x y, c.F (k + 1) x y = roundJ P C (Lof S.m k cuts) c.id body (endJ P S.m fn.results.toList alts) (stAt c.slots c.ps c.os x y) := by rw [hm]; exact hstep
  obtain ⟨E', r1, r2⟩ := mv_rep hR (by omega)
  refine codeJ_ok hC hN hC' hmo hd (LOK_all hC hN hC' hmo hd hQ h0 hstep' k) hQ hz (E := E') ?_ ?_
  · exact { r1 with env := arg_ok _ (r2.RVL hargs), defers := rfl }
  · have := hlen x
    simp; omega
end Go.Eng

namespace Go.Eng
variable {R : Type} {P : Program} {S : Sc} {w0 w : World} {E : En} {st : St} {a : Act} {r : R} {H : Nat → Option JObj} {nx : Nat}
def Froz (w : World) (E : En) (H : Nat → Option JObj) (I : Option Bool → Nat → Option (Array Value)) (id : Nat) : Prop :=
  ∀ o us, H id = some o → us ≠ [] → Blk w E (E.φ id) o.rw us → ∃ c, I (some false) (E.φ id).blk = some c ∧ (c.toList.drop (E.φ id).off).take us.length = us
def More (E : En) (I : Option Bool → Nat → Option (Array Value)) : Prop := ∀ esc b c, E.im esc b = some c → I esc b = some c
theorem goes_im {I : Option Bool → Nat → Option (Array Value)} (h : More E I) : Goes some E H (E.wim I) H := ⟨fun id i hn e => by cases e; exact ⟨hn, rfl, .inr rfl⟩, h⟩
theorem take_drop_len {α : Type} (l : List α) (o n m : Nat) (us : List α) (h : (l.drop o).take us.length = us) : (l.drop (o + n)).take ((us.drop n).take m).length = (us.drop n).take m := by
  have h1 : us.drop n = (l.drop (o + n)).take (us.length - n) := by
    conv => lhs; rw [← h]
    rw [List.drop_take, List.drop_drop]
  rw [h1, List.take_take, List.take_eq_take_iff]
  simp
theorem prep_row (h : RepH S w0 E H nx w) {I : Option Bool → Nat → Option (Array Value)} {id : Nat} {e : EK} {l : List e.T} {rw : Bool} (ho : H id = some (.row e l rw)) (hm : More E I) (hI : Froz w E H I id) (hw : 1 ≤ e.w) {off n : Nat} {v : Value}
    (hn : off + n ≤ l.length) (hs : SlOK (E.φ id) e.w off n l.length v) : RC (E.wim I) H (.lst false e ((l.drop off).take n)) [v] := by
  obtain ⟨us, hc, hb⟩ := ObjOK_iff.1 (h.obj id _ ho)
  have hl : ((l.drop off).take n).length = n := by simp; omega
  obtain ⟨base, cap, rfl, hle, hN, hroom, hbase⟩ := hs
  have hk : EKL (E.wim I) e l us := hc.1.mono (E' := E.wim I) hm
  have h1 := EKL_take n (EKL_drop off hk)
  refine ⟨by rw [hl]; exact Nat.le_trans (by omega) hc.2, base, cap, by rw [hl], by rw [hl]; exact hle, _, h1, ?_⟩
  rcases Nat.eq_zero_or_pos n with h0 | h0
  · left; subst h0; simp
  · right
    have hcap : cap ≠ 0 := by omega
    have hus : us ≠ [] := by
      intro e0
      have h2 := EKL_len hc.1
      have h3 : 1 * 1 ≤ l.length * e.w := Nat.mul_le_mul (by omega) hw
      rw [← h2, e0] at h3; exact absurd h3 (by decide)
    obtain ⟨c, h2, h3⟩ := hI _ us ho hus (hb.resolve_left fun x => hus x.1)
    refine ⟨_, _, hbase.resolve_left hcap, c, h2, ?_⟩
    exact take_drop_len _ _ _ _ _ h3
mutual
theorem prep_RC (h : RepH S w0 E H nx w) {I : Option Bool → Nat → Option (Array Value)} (hm : More E I) : ∀ (p : VP) (v : JV) (us : List Value), (∀ id ∈ (prep H p v).2, Froz w E H I id) → RC E H v us → RC (E.wim I) H (prep H p v).1 us
  | p, v, us, hf, hv => by
    have triv : ∀ {v : JV} {us : List Value}, RC E H v us → RC (E.wim I) H v us := fun k => by
      have := RC_ren (goes_im (H := H) hm) _ _ k; rwa [ren_some] at this
    cases p with
    | lst esc e =>
      cases esc with
      | true => exact triv hv
      | false =>
        cases v with
        | full id =>
          unfold prep at hf ⊢
          split
          · rename_i e' l rw ho
            simp only [ho] at hf
            split
            · rename_i l' hl
              obtain ⟨rfl, hl'⟩ := castL_inv hl
              cases hl'
              simp only [hl] at hf
              cases hb : Nat.ble 1 e'.w with
              | false => exact triv hv
              | true =>
                rw [hb] at hf
                obtain ⟨_, u, rfl, _, hs⟩ := hv
                have := prep_row h ho hm (hf id (by simp)) (Nat.le_of_ble_eq_true hb) (off := 0) (n := l.length) (by omega) (hs e' l.length (by rw [ho]; rfl))
                simpa using this
            · exact triv hv
          · exact triv hv
        | sl id off n =>
          unfold prep at hf ⊢
          split
          · rename_i e' l rw ho
            simp only [ho] at hf
            split
            · rename_i l' hl
              obtain ⟨rfl, hl'⟩ := castL_inv hl
              cases hl'
              simp only [hl] at hf
              cases hb : Nat.ble 1 e'.w with
              | false => exact triv hv
              | true =>
                rw [hb] at hf
                obtain ⟨_, u, rfl, _, hs⟩ := hv
                obtain ⟨h1, h2⟩ := hs.1 e' l.length (by rw [ho]; rfl)
                exact prep_row h ho hm (hf id (by simp)) (Nat.le_of_ble_eq_true hb) h1 h2
            · exact triv hv
          · exact triv hv
        | _ => exact triv hv
    | agg ps =>
      cases v with
      | agg vs => exact hv.elim
      | _ => exact triv hv
    | _ => exact triv hv
theorem prepL_RCs (h : RepH S w0 E H nx w) {I : Option Bool → Nat → Option (Array Value)} (hm : More E I) : ∀ (p : VPL) (vs : List JV) (us : List Value), (∀ id ∈ (prepL H p vs).2, Froz w E H I id) → RCs E H vs us → RCs (E.wim I) H (prepL H p vs).1 us
  | p, vs, us, hf, hv => by
    have triv : ∀ {v : List JV} {us : List Value}, RCs E H v us → RCs (E.wim I) H v us := fun k => by
      have := RCs_ren (goes_im (H := H) hm) _ _ k; rwa [renL_some] at this
    cases p with
    | nil => cases vs <;> exact triv hv
    | cons p ps =>
      cases vs with
      | nil => exact triv hv
      | cons v vs =>
        obtain ⟨x, y, e, h1, h2⟩ := hv
        simp only [prepL, List.mem_append] at hf ⊢
        exact ⟨x, y, e, prep_RC h hm p v x (fun id hi => hf id (.inl hi)) h1, prepL_RCs h hm ps vs y (fun id hi => hf id (.inr hi)) h2⟩
end
theorem prep_RV (h : RepH S w0 E H nx w) {I : Option Bool → Nat → Option (Array Value)} (hm : More E I) {p : VP} {v : JV} {u : Value} (hf : ∀ id ∈ (prep H p v).2, Froz w E H I id) (hv : RV E H v u) : RV (E.wim I) H (prep H p v).1 u := by
  have triv : RV (E.wim I) H v u := by have := RV_ren (goes_im (H := H) hm) hv; rwa [ren_some] at this
  cases p with
  | lst esc e =>
    cases esc with
    | true => exact triv
    | false =>
      cases v with
      | full id =>
        have := prep_RC h hm (.lst false e) (.full id) [u] hf hv
        revert this; unfold prep; split <;> (try split) <;> (try (cases hb : Nat.ble 1 e.w)) <;> exact fun q => q
      | sl id off n =>
        have := prep_RC h hm (.lst false e) (.sl id off n) [u] hf hv
        revert this; unfold prep; split <;> (try split) <;> (try (cases hb : Nat.ble 1 e.w)) <;> exact fun q => q
      | _ => exact triv
  | agg ps =>
    cases v with
    | agg vs =>
      obtain ⟨xs, e, k⟩ := hv
      exact ⟨xs, e, prepL_RCs h hm ps vs _ hf k⟩
    | _ => exact triv
  | _ => exact triv
theorem prepL_RVL (h : RepH S w0 E H nx w) {I : Option Bool → Nat → Option (Array Value)} (hm : More E I) : ∀ (p : VPL) (vs : List JV) (us : List Value), (∀ id ∈ (prepL H p vs).2, Froz w E H I id) → RVL E H vs us → RVL (E.wim I) H (prepL H p vs).1 us
  | p, vs, us, hf, hv => by
    have triv : ∀ {v : List JV} {us : List Value}, RVL E H v us → RVL (E.wim I) H v us := fun k => by
      have := (goes_im (H := H) hm).RVL k; rwa [renL_some] at this
    cases p with
    | nil => cases vs <;> exact triv hv
    | cons p ps =>
      cases vs with
      | nil => exact triv hv
      | cons v vs =>
        obtain ⟨x, y, e, h1, h2⟩ := hv
        simp only [prepL, List.mem_append] at hf ⊢
        exact ⟨x, y, e, prep_RV h hm (fun id hi => hf id (.inl hi)) h1, prepL_RVL h hm ps vs y (fun id hi => hf id (.inr hi)) h2⟩
mutual
def JV.esc : JV → Bool
  | .lst esc _ _ => esc
  | .pim esc cs => esc && escL cs
  | .fn _ cs => escL cs
  | .agg cs => escL cs
  | .tup cs => escL cs
  | _ => true
def escL : List JV → Bool
  | [] => true
  | v :: r => v.esc && escL r
end
mutual
theorem mk_esc : ∀ (p : VP) (x : p.T), p.esc = true → (p.mk x).esc = true
  | .int _, _, _ | .bool, _, _ | .str, _, _ | .nilp, _, _ | .nils, _, _ | .nilf, _, _ | .junk, _, _ | .ptr _ _, _, _ | .full _, _, _ | .sl _, _, _ | .arr _ _, _, _ => rfl
  | .lst esc e, x, h => h
  | .fn f caps, x, h => mkL_esc caps x h
  | .agg ps, x, h => mkL_esc ps x h
  | .tup ps, x, h => mkL_esc ps x h
theorem mkL_esc : ∀ (p : VPL) (x : p.T), p.esc = true → escL (p.mk x) = true
  | .nil, _, _ => rfl
  | .cons p r, x, h => by
    simp only [VPL.esc, Bool.and_eq_true] at h
    simp only [VPL.mk, escL, Bool.and_eq_true]
    exact ⟨mk_esc p x.1 h.1, mkL_esc r x.2 h.2⟩
end
mutual
theorem esc_RC {I : Option Bool → Nat → Option (Array Value)} (h : ∀ b c, E.im (some true) b = some c → I (some true) b = some c) : ∀ (v : JV) (us : List Value), v.esc = true → RC E H v us → RC (E.wim I) H v us
  | .int k n, us, _, k' => k'
  | .bool b, us, _, k' => k'
  | .str l, us, _, k' => k'
  | .nilp, us, _, k' => k'
  | .nils, us, _, k' => k'
  | .nilf, us, _, k' => k'
  | .ptr id off, us, _, k' => k'
  | .pdyn id off d, us, _, k' => k'
  | .pel id d c, us, _, k' => k'
  | .full id, us, _, k' => k'
  | .sl id off len, us, _, k' => k'
  | .lst esc e l, us, he, k' => by
    simp only [JV.esc] at he; subst he
    obtain ⟨hml, base, cap, hu, hc, vs, hk, hor⟩ := k'
    refine ⟨hml, base, cap, hu, hc, vs, hk.monoT h, hor.imp id ?_⟩
    rintro ⟨b, o, hb, c, h1, h2⟩
    exact ⟨b, o, hb, c, h _ _ h1, h2⟩
  | .pim esc cs, us, he, k' => by
    simp only [JV.esc, Bool.and_eq_true] at he
    obtain ⟨rfl, he⟩ := he
    obtain ⟨b, o, vs, hu, hr, c, h1, h2⟩ := k'
    exact ⟨b, o, vs, hu, esc_RCs h cs vs he hr, c, h _ _ h1, h2⟩
  | .fn g caps, us, he, k' => by
    obtain ⟨cs, hu, hr⟩ := k'
    exact ⟨cs, hu, esc_RVl h caps _ he hr⟩
  | .arr k n l, us, _, k' => k'
  | .agg cs, us, _, k' => k'.elim
  | .tup cs, us, _, k' => k'.elim
  | .junk, us, _, k' => k'
theorem esc_RCs {I : Option Bool → Nat → Option (Array Value)} (h : ∀ b c, E.im (some true) b = some c → I (some true) b = some c) : ∀ (v : List JV) (us : List Value), escL v = true → RCs E H v us → RCs (E.wim I) H v us
  | [], _, _, k => k
  | c :: r, us, he, ⟨x, y, e, h1, h2⟩ => by
    simp only [escL, Bool.and_eq_true] at he
    exact ⟨x, y, e, esc_RC h c x he.1 h1, esc_RCs h r y he.2 h2⟩
theorem esc_RVl {I : Option Bool → Nat → Option (Array Value)} (h : ∀ b c, E.im (some true) b = some c → I (some true) b = some c) : ∀ (v : List JV) (us : List Value), escL v = true → RVl E H v us → RVl (E.wim I) H v us
  | [], _, _, k => k
  | c :: r, us, he, ⟨x, y, e, hf, h1, h2⟩ => by
    simp only [escL, Bool.and_eq_true] at he
    exact ⟨x, y, e, hf, esc_RC h c [x] he.1 h1, esc_RVl h r y he.2 h2⟩
end
theorem esc_RV1 {I : Option Bool → Nat → Option (Array Value)} (h : ∀ b c, E.im (some true) b = some c → I (some true) b = some c) {v : JV} {u : Value} (he : v.esc = true) (k : RV1 E H v u) : RV1 (E.wim I) H v u := by
  cases v
  case junk => trivial
  case agg cs => obtain ⟨xs, e, k⟩ := k; exact ⟨xs, e, esc_RCs h cs _ he k⟩
  case arr k n l => exact k
  all_goals exact esc_RC h _ [u] he k
theorem esc_RV1l {I : Option Bool → Nat → Option (Array Value)} (h : ∀ b c, E.im (some true) b = some c → I (some true) b = some c) : ∀ {v : List JV} {us : List Value}, escL v = true → RV1l E H v us → RV1l (E.wim I) H v us
  | [], _, _, k => k
  | c :: r, us, he, ⟨x, y, e, h1, h2⟩ => by
    simp only [escL, Bool.and_eq_true] at he
    exact ⟨x, y, e, esc_RV1 h he.1 h1, esc_RV1l h he.2 h2⟩
theorem esc_RV {I : Option Bool → Nat → Option (Array Value)} (h : ∀ b c, E.im (some true) b = some c → I (some true) b = some c) {v : JV} {u : Value} (he : v.esc = true) (k : RV E H v u) : RV (E.wim I) H v u := by
  cases v
  case tup vs => obtain ⟨xs, e, k⟩ := k; exact ⟨xs, e, esc_RV1l h he k⟩
  all_goals exact esc_RV1 (H := H) (u := u) h he k
def JObj.esc : JObj → Bool
  | .box cs _ => escL cs
  | .row _ _ _ => true
theorem esc_Cont {I : Option Bool → Nat → Option (Array Value)} (h : ∀ b c, E.im (some true) b = some c → I (some true) b = some c) {o : JObj} {us : List Value} (he : o.esc = true) (k : Cont E H o us) : Cont (E.wim I) H o us := by
  cases o with
  | box cs rw => exact esc_RCs h cs us he k
  | row e l rw => exact ⟨k.1.monoT h, k.2⟩
theorem merge_new (f : Nat → Option Nat) : ∀ (objs : List (Option JObj)) (nx : Nat) (H : Nat → Option JObj), (mergeJ f [] [] objs nx H).1 = nx + objs.length ∧
    (∀ k, k < objs.length → (mergeJ f [] [] objs nx H).2 (nx + k) = renO f (listAt objs k)) ∧ (∀ i, i < nx ∨ nx + objs.length ≤ i → (mergeJ f [] [] objs nx H).2 i = H i)
  | [], nx, H => ⟨rfl, fun k h => by simp at h, fun _ _ => rfl⟩
  | o :: objs, nx, H => by
    obtain ⟨h1, h2, h3⟩ := merge_new f objs (nx + 1) (upd H nx (renO f o))
    refine ⟨?_, fun k hk => ?_, fun i hi => ?_⟩
    · show (mergeJ f [] [] objs (nx + 1) _).1 = _
      rw [h1]; simp; omega
    · show (mergeJ f [] [] objs (nx + 1) _).2 _ = _
      cases k with
      | zero => rw [h3 _ (.inl (by omega))]; exact upd_same _ _ _
      | succ k =>
        have := h2 k (by simpa using hk)
        rw [show nx + (k + 1) = nx + 1 + k from by omega, this]; simp [listAt]
    · show (mergeJ f [] [] objs (nx + 1) _).2 _ = _
      simp only [List.length_cons] at hi
      rw [h3 i (by omega)]; exact upd_ne _ _ (by omega)
theorem merge_ok (f : Nat → Option Nat) : ∀ (ps : List OP) (is : List Nat) (objs : List (Option JObj)) (nx : Nat) (H : Nat → Option JObj), is.length = ps.length → ps.length ≤ objs.length → is.Nodup → (∀ i ∈ is, i < nx) →
    (mergeJ f ps is objs nx H).1 = nx + (objs.length - ps.length) ∧
    (∀ j id p, is[j]? = some id → ps[j]? = some p → (mergeJ f ps is objs nx H).2 id = cond p.rw (renO f (listAt objs j)) (H id)) ∧
    (∀ k, k < objs.length - ps.length → (mergeJ f ps is objs nx H).2 (nx + k) = renO f (listAt objs (ps.length + k))) ∧
    (∀ i, i ∉ is → i < nx ∨ nx + (objs.length - ps.length) ≤ i → (mergeJ f ps is objs nx H).2 i = H i)
  | [], [], objs, nx, H, _, _, _, _ => by
    obtain ⟨h1, h2, h3⟩ := merge_new f objs nx H
    exact ⟨by simpa using h1, fun j id p h => by simp at h, fun k hk => by simpa using h2 k (by simpa using hk), fun i _ hi => h3 i (by simpa using hi)⟩
  | [], _ :: _, objs, nx, H, h, _, _, _ => by simp at h
  | _ :: _, [], objs, nx, H, h, _, _, _ => by simp at h
  | p :: ps, i :: is, [], nx, H, _, h, _, _ => by simp at h
  | p :: ps, i :: is, o :: objs, nx, H, hl, hle, hnd, hlt => by
    obtain ⟨hni, hnd⟩ := List.nodup_cons.1 hnd
    obtain ⟨h1, h2, h3, h4⟩ := merge_ok f ps is objs nx (cond p.rw (upd H i (renO f o)) H) (by simpa using hl) (by simpa using hle) hnd (fun k hk => hlt k (by simp [hk]))
    have hi := hlt i (by simp)
    refine ⟨?_, fun j id q hj hq => ?_, fun k hk => ?_, fun k hk hk' => ?_⟩
    · show (mergeJ f ps is objs nx _).1 = _
      rw [h1]; simp
    · show (mergeJ f ps is objs nx _).2 _ = _
      cases j with
      | zero =>
        simp only [List.getElem?_cons_zero, Option.some.injEq] at hj hq
        subst hj hq
        rw [h4 i hni (.inl hi)]
        cases p.rw with
        | true => exact upd_same _ _ _
        | false => rfl
      | succ j =>
        simp only [List.getElem?_cons_succ] at hj hq
        rw [h2 j id q hj hq]
        have : id ≠ i := fun e => hni (by subst e; exact List.mem_of_getElem? hj)
        cases q.rw with
        | true => simp [listAt]
        | false =>
          cases p.rw with
          | true => exact upd_ne _ _ this
          | false => rfl
    · show (mergeJ f ps is objs nx _).2 _ = _
      simp only [List.length_cons] at hk
      rw [h3 k (by omega), List.length_cons, show ps.length + 1 + k = (ps.length + k) + 1 from by omega]; simp [listAt]
    · show (mergeJ f ps is objs nx _).2 _ = _
      simp only [List.mem_cons, not_or, List.length_cons] at hk hk'
      rw [h4 k hk.2 (by omega)]
      cases p.rw with
      | true => exact upd_ne _ _ hk.1
      | false => rfl
end Go.Eng

namespace Go.Eng
variable {R : Type} {P : Program} {S : Sc} {w0 w : World} {E : En} {st : St} {a : Act} {r : R} {H : Nat → Option JObj} {nx : Nat}
theorem mk_obj : ∀ {os : List OP} {y : OPL.T os} {i : Nat} {o : JObj}, listAt (OPL.mk os y) i = some o → ∃ p, os[i]? = some p ∧ p ≠ .gone ∧ o.rw = p.rw ∧ (p.esc = true → o.esc = true)
  | [], _, i, o, h => by simp [OPL.mk, listAt] at h
  | p :: os, y, i + 1, o, h => by
    have : listAt (OPL.mk os y.2) i = some o := by simpa [OPL.mk, listAt] using h
    obtain ⟨q, h1⟩ := mk_obj this
    exact ⟨q, by simpa using h1⟩
  | p :: os, y, 0, o, h => by
    have h : p.mk y.1 = some o := by simpa [OPL.mk, listAt] using h
    cases p with
    | gone => cases h
    | box ps rw => cases h; exact ⟨_, rfl, by simp, rfl, mkL_esc ps _⟩
    | row e rw => cases h; exact ⟨_, rfl, by simp, rfl, fun _ => rfl⟩
theorem altOK_at : ∀ {os qs : List OP}, altOK os qs = true → os.length ≤ qs.length ∧ ∀ (j : Nat) (q : OP), qs[j]? = some q → q.esc = true ∧ (q ≠ .gone → (∀ p : OP, os[j]? = some p → q.rw = p.rw) ∧ (os[j]? = none → q.rw = true))
  | [], [], _ => ⟨Nat.le_refl _, fun j q h => by simp at h⟩
  | _ :: _, [], h => by cases h
  | [], q :: qs, h => by
    simp only [altOK, Bool.and_eq_true] at h
    obtain ⟨_, h2⟩ := altOK_at (os := []) (qs := qs) h.2
    refine ⟨Nat.zero_le _, fun j q' hj => ?_⟩
    cases j with
    | succ j => simpa using h2 j q' (by simpa using hj)
    | zero =>
      simp only [List.getElem?_cons_zero, Option.some.injEq] at hj; subst hj
      refine ⟨h.1.2, fun hg => ⟨fun p hp => by simp at hp, fun _ => ?_⟩⟩
      have := h.1.1
      cases q <;> first | exact this | exact (hg rfl).elim
  | p :: os, q :: qs, h => by
    simp only [altOK, Bool.and_eq_true] at h
    obtain ⟨h1, h2⟩ := altOK_at (os := os) (qs := qs) h.2
    refine ⟨by simpa using h1, fun j q' hj => ?_⟩
    cases j with
    | succ j => simpa using h2 j q' (by simpa using hj)
    | zero =>
      simp only [List.getElem?_cons_zero, Option.some.injEq] at hj; subst hj
      refine ⟨h.1.2, fun hg => ⟨fun p' hp => ?_, fun hn => by simp at hn⟩⟩
      simp only [List.getElem?_cons_zero, Option.some.injEq] at hp; subst hp
      have := h.1.1
      cases q <;> first | exact eqB_iff this | exact (hg rfl).elim
theorem altsOK_at {os : List OP} : ∀ {l : List Alt} {q : Alt}, altsOK os l = true → q ∈ l → q.1.esc = true ∧ altOK os q.2 = true
  | [], q, _, h => by simp at h
  | a :: l, q, h, hq => by
    simp only [altsOK, Bool.and_eq_true] at h
    rcases List.mem_cons.1 hq with rfl | hq
    · exact h.1
    · exact altsOK_at h.2 hq
theorem rwIds_mem : ∀ {os : List OP} {order : List Nat} {j : Nat} {p : OP} {id : Nat}, os[j]? = some p → order[j]? = some id → p.rw = true → id ∈ rwIds os order
  | [], _, j, p, id, h, _, _ => by simp at h
  | _ :: _, [], j, p, id, _, h, _ => by simp at h
  | q :: os, i :: order, 0, p, id, h1, h2, h3 => by
    simp only [List.getElem?_cons_zero, Option.some.injEq] at h1 h2; subst h1 h2
    simp [rwIds, h3]
  | q :: os, i :: order, j + 1, p, id, h1, h2, h3 => by
    have := rwIds_mem (os := os) (order := order) (by simpa using h1) (by simpa using h2) h3
    unfold rwIds
    cases q.rw <;> simp [this]
theorem disj_at : ∀ {l m : List Nat}, disjB l m = true → ∀ i ∈ l, i ∉ m
  | [], _, _, i, h => by simp at h
  | j :: l, m, h, i, hi => by
    simp only [disjB, Bool.and_eq_true, Bool.not_eq_true'] at h
    rcases List.mem_cons.1 hi with rfl | hi
    · intro hm; rw [memB_iff.2 hm] at h; cases h.1
    · exact disj_at h.2 i hi
theorem reach_live : ∀ (n : Nat) (l acc : List Nat), ∀ i ∈ reach H n l acc, i ∈ acc ∨ H i ≠ none
  | 0, l, acc, i, h => .inl (by cases l <;> simpa [reach] using h)
  | n + 1, [], acc, i, h => .inl (by simpa [reach] using h)
  | n + 1, j :: r, acc, i, h => by
    unfold reach at h
    cases hm : memB j acc with
    | true => rw [hm] at h; exact reach_live n r acc i h
    | false =>
      rw [hm] at h; simp only [cond_false] at h
      split at h
      · rename_i o ho
        rcases reach_live n _ _ i h with h | h
        · rcases List.mem_append.1 h with h | h
          · exact .inl h
          · simp only [List.mem_singleton] at h; subst h; right; rw [ho]; simp
        · exact .inr h
      · exact reach_live n r acc i h
theorem order_live {vs : List JV} : ∀ i ∈ orderJ H 0 vs, H i ≠ none := fun i h => by
  rcases reach_live _ _ _ i h with h | h
  · simp at h
  · exact h
theorem RepH.heapAt (h : RepH S w0 E H nx w) {id : Nat} {o : JObj} (ho : H id = some o) (hr : o.rw = true) (hp : 0 < (E.φ id).room) : ∃ c t fz, w.heap[(E.φ id).blk]? = some (.cells c t fz) := by
  obtain ⟨us, _, hb⟩ := ObjOK_iff.1 (h.obj id o ho)
  rcases hb with ⟨_, h0⟩ | hb
  · omega
  · unfold Blk at hb; rw [if_pos hr] at hb
    obtain ⟨c, t, lo, hi, hg, _⟩ := hb
    exact ⟨c, t, _, hg⟩
def ownC (E2 : En) (order : List Nat) (objs : List (Option JObj)) (b : Nat) : Prop :=
  ∃ i o, listAt objs i = some o ∧ o.rw = true ∧ 0 < (E2.φ (order.getD i 0)).room ∧ (E2.φ (order.getD i 0)).blk = b
def viewS (E2 : En) (I : Option Bool → Nat → Option (Array Value)) (order : List Nat) (m : Nat) (objs : List (Option JObj)) : Sc := ⟨ownC E2 order objs, m, fun i => E2.φ (order.getD i 0), fun e => I (some e), fun i => shp (listAt objs i)⟩
theorem im_ex (w : World) (im : Option Bool → Nat → Option (Array Value)) (own : Nat → Prop) : ∃ I : Option Bool → Nat → Option (Array Value), (∀ b, I (some true) b = im (some true) b) ∧ (∀ e, e ≠ some true → ∀ b c, I e b = some c ↔ ¬ own b ∧ ∃ t fz, w.heap[b]? = some (.cells c t fz)) := by
  classical
  refine ⟨fun e b => if e = some true then im (some true) b else if own b then none else match w.heap[b]? with
    | some (.cells c _ _) => some c
    | _ => none, fun b => by simp, fun e he b c => ?_⟩
  simp only [if_neg he]
  by_cases hb : own b
  · simp [hb]
  · simp only [hb, if_false, not_false_eq_true, true_and]
    split
    · rename_i c' t fz h
      rw [h]
      constructor
      · intro e; cases e; exact ⟨_, _, rfl⟩
      · rintro ⟨_, _, e⟩; cases e; rfl
    · rename_i hne
      constructor
      · intro e; cases e
      · rintro ⟨t, fz, e⟩; exact (hne _ _ _ e).elim
section
variable {E2 : En} {H2 : Nat → Option JObj} {nx2 : Nat} {order : List Nat} {os : List OP} {y : OPL.T os} {I : Option Bool → Nat → Option (Array Value)}
theorem own_at (F : Formed S w0 w E2 H2 order os y) {b : Nat} (h : ownC E2 order (OPL.mk os y) b) : ∃ (i : Nat) (p : OP) (id : Nat) (o : JObj), os[i]? = some p ∧ p.rw = true ∧ order[i]? = some id ∧ H2 id = some o ∧ o.rw = true ∧ 0 < (E2.φ id).room ∧ (E2.φ id).blk = b := by
  obtain ⟨i, o', h1, h2, h3, h4⟩ := h
  obtain ⟨p, id, o, us, q1, q2, q3, q4, q5, _⟩ := F.obj i o' h1
  rw [getD_of q2] at h3 h4
  exact ⟨i, p, id, o, q1, by rw [← q4]; exact h2, q2, q3, q5 (by rw [← q4]; exact h2), h3, h4⟩
theorem not_own (h : RepH S w0 E2 H2 nx2 w) (F : Formed S w0 w E2 H2 order os y) {id : Nat} {o : JObj} (ho : H2 id = some o) (hr : o.rw = true) (hp : 0 < (E2.φ id).room) (hn : ∀ (i : Nat) (p : OP), os[i]? = some p → order[i]? = some id → p.rw = false) :
    ¬ ownC E2 order (OPL.mk os y) (E2.φ id).blk := fun hc => by
  obtain ⟨i, p, id', o', h1, h2, h3, h4, h5, h6, h7⟩ := own_at F hc
  have := h.apart id' id o' o h4 ho h5 hr h6 hp h7
  subst this
  rw [hn i p h1 h3] at h2; cases h2
theorem view_rep (h : RepH S w0 E2 H2 nx2 w) (F : Formed S w0 w E2 H2 order os y) (hI1 : ∀ b, I (some true) b = E2.im (some true) b) (hI2 : ∀ e, e ≠ some true → ∀ b c, I e b = some c ↔ ¬ ownC E2 order (OPL.mk os y) b ∧ ∃ t fz, w.heap[b]? = some (.cells c t fz)) :
    More E2 I ∧ RepH (viewS E2 I order os.length (OPL.mk os y)) w ((E2.at order).wim I) (listAt (OPL.mk os y)) os.length w := by
  have hmore : More E2 I := by
    intro esc b c hb
    by_cases he : esc = some true
    · subst he; rw [hI1]; exact hb
    · refine (hI2 esc he b c).2 ⟨fun ho => ?_, h.imOK _ _ _ hb⟩
      obtain ⟨i, p, id, o, h1, h2, h3, h4, h5, h6, h7⟩ := own_at F ho
      have := (h.own id o h4 h5 h6).2 esc
      rw [h7, hb] at this; cases this
  have hphi : ∀ {i id : Nat}, order[i]? = some id → ((E2.at order).wim I).φ i = E2.φ id := fun hi => by show E2.φ (order.getD _ 0) = _; rw [getD_of hi]
  refine ⟨hmore, ⟨rfl, rfl, rfl, Nat.le_refl _, fun _ _ _ => rfl⟩, ?_, ?_, ?_, ?_, ?_, ?_, ?_, by show order.length = _; exact F.len, Nat.le_refl _, fun i hi => rfl, fun e b _ => rfl, fun i _ => .inr rfl⟩
  · intro i o' hi
    obtain ⟨p, id, o, us, q1, q2, q3, q4, q5, q8, q6, q7⟩ := F.obj i o' hi
    refine ObjOK_iff.2 ⟨us, ?_, ?_⟩
    · have := q6.ren (goes_im (E := { nx := order.length, φ := fun i => E2.φ (order.getD i 0), im := E2.im }) (H := listAt (OPL.mk os y)) hmore)
      rwa [JObj.ren_some] at this
    · rw [hphi q2]
      rcases q7 with q7 | q7
      · exact .inl q7
      · rcases Nat.eq_zero_or_pos (E2.φ id).room with h0 | h0
        · left
          refine ⟨?_, h0⟩
          have : us.length ≤ (E2.φ id).room := by
            unfold Blk at q7; split at q7
            · obtain ⟨_, _, _, _, _, _, _, h, _⟩ := q7; exact h
            · exact q7.1
          exact List.length_eq_zero_iff.1 (by omega)
        · right
          rw [q4]
          cases hp : p.rw with
          | true => rw [q5 hp] at q7; exact q7
          | false =>
            cases ho : o.rw with
            | false =>
              rw [ho] at q7
              obtain ⟨h1, c, h2, h3⟩ := q7
              exact ⟨h1, c, hmore _ _ _ h2, h3⟩
            | true =>
              have hno := not_own h F q3 ho h0 (fun j p' hj hj' => by
                have := nodup_inj F.nodup hj' q2; subst this
                rw [q1] at hj; cases hj; exact hp)
              rw [ho] at q7
              obtain ⟨c, t, lo, hi', h1, _, _, h2, h3⟩ := q7
              exact ⟨h2, c, (hI2 none (by simp) _ _).2 ⟨hno, _, _, h1⟩, h3⟩
  · intro i o' hi hr hp
    refine ⟨.inl ⟨i, o', hi, hr, hp, rfl⟩, fun esc => ?_⟩
    obtain ⟨p, id, o, us, q1, q2, q3, q4, q5, q8, q6, q7⟩ := F.obj i o' hi
    by_cases he : esc = some true
    · subst he
      show I (some true) _ = none
      rw [hI1, hphi q2]
      rw [hphi q2] at hp
      exact (h.own id o q3 (q5 (by rw [← q4]; exact hr)) hp).2 _
    · show I esc _ = none
      cases hc : I esc (((E2.at order).wim I).φ i).blk with
      | none => rfl
      | some c => exact (((hI2 _ he _ _).1 hc).1 ⟨i, o', hi, hr, hp, rfl⟩).elim
  · intro i j x z hx hz hrx hrz hpx hpz he
    obtain ⟨p, id, o, us, q1, q2, q3, q4, q5, q8, q6, q7⟩ := F.obj i x hx
    obtain ⟨p', id', o', us', s1, s2, s3, s4, s5, s8, s6, s7⟩ := F.obj j z hz
    rw [hphi q2] at hpx he; rw [hphi s2] at hpz he
    have := h.apart id id' o o' q3 s3 (q5 (by rw [← q4]; exact hrx)) (s5 (by rw [← s4]; exact hrz)) hpx hpz he
    subst this
    exact nodup_inj F.nodup q2 s2
  · intro esc b c hc
    by_cases he : esc = some true
    · subst he; exact h.imOK _ b c (by rw [← hI1]; exact hc)
    · exact ((hI2 _ he _ _).1 hc).2
  · intro esc b c hc
    have hno : ¬ ownC E2 order (OPL.mk os y) b := by
      by_cases he : esc = some true
      · subst he
        intro ho
        obtain ⟨i, p, id, o, h1, h2, h3, h4, h5, h6, h7⟩ := own_at F ho
        have := (h.own id o h4 h5 h6).2 (some true)
        rw [h7] at this
        have hc' : E2.im (some true) b = some c := by rw [← hI1]; exact hc
        rw [this] at hc'; cases hc'
      · exact ((hI2 _ he _ _).1 hc).1
    rcases Nat.lt_or_ge b w.heap.size with h1 | h1
    · exact .inl ⟨h1, hno⟩
    · exact .inr h1
  · intro b c hc
    exact hmore (some false) b c (h.imSub b c (by rw [← hI1]; exact hc))
  · intro i hi
    cases hl : listAt (OPL.mk os y) i with
    | none => rfl
    | some o =>
      have := listAt_lt hl
      rw [mk_len] at this
      omega
end
end Go.Eng

namespace Go.Eng
variable {R : Type} {P : Program} {S : Sc} {w0 w w' : World} {E : En} {st : St} {a : Act} {r : R} {H : Nat → Option JObj} {nx : Nat}
variable {E2 : En} {H2 : Nat → Option JObj} {nx2 : Nat} {order : List Nat} {os : List OP} {y : OPL.T os} {I : Option Bool → Nat → Option (Array Value)}
theorem en_ex (w : World) (E2 E' : En) (nx2 m nx' : Nat) : ∃ E3 : En, E3.nx = nx' ∧ (∀ i, i < nx2 → E3.φ i = E2.φ i) ∧ (∀ i, nx2 ≤ i → E3.φ i = E'.φ (i - nx2 + m)) ∧ (∀ esc b, b < w.heap.size → E3.im esc b = E2.im esc b) ∧ (∀ esc b, w.heap.size ≤ b → E3.im esc b = E'.im esc b) :=
  ⟨⟨nx', fun i => if i < nx2 then E2.φ i else E'.φ (i - nx2 + m), fun esc b => if b < w.heap.size then E2.im esc b else E'.im esc b⟩, rfl, fun i hi => if_pos hi, fun i hi => if_neg (by omega), fun esc b hb => if_pos hb, fun esc b hb => if_neg (by omega)⟩
theorem shp_some {o : JObj} : shp (some o) ≠ .none := by cases o <;> simp [shp]
theorem shp_none {o : Option JObj} (h : shp o = .none) : o = none := by cases o with
  | none => rfl
  | some o => exact (shp_some h).elim
theorem back_lt {objs : List (Option JObj)} {m id i : Nat} (hm : id < m) (h : backJ order m nx2 objs id = some i) : order[id]? = some i ∧ ∃ o, listAt objs id = some o := by
  unfold backJ at h
  split at h
  · rename_i o ho
    have : Nat.blt id m = true := by rw [Nat.blt_eq]; exact hm
    rw [this] at h; exact ⟨h, o, ho⟩
  · cases h
theorem back_ge {objs : List (Option JObj)} {m id i : Nat} (hm : m ≤ id) (h : backJ order m nx2 objs id = some i) : i = nx2 + (id - m) ∧ ∃ o, listAt objs id = some o := by
  unfold backJ at h
  split at h
  · rename_i o ho
    have : Nat.blt id m = false := by
      cases hb : Nat.blt id m with
      | false => rfl
      | true => rw [Nat.blt_eq] at hb; omega
    rw [this] at h; cases h; exact ⟨rfl, o, ho⟩
  · cases h
theorem back_rep (h : RepH S w0 E2 H2 nx2 w) (F : Formed S w0 w E2 H2 order os y) (hlive : ∀ i ∈ order, H2 i ≠ none) {qs : List OP} {z : OPL.T qs} (hq : altOK os qs = true) (hI1 : ∀ b, I (some true) b = E2.im (some true) b) {E' : En}
    (h' : RepH (viewS E2 I order os.length (OPL.mk os y)) w E' (listAt (OPL.mk qs z)) qs.length w') :
    ∃ E3, RepH S w0 E3 (mergeJ (backJ order os.length nx2 (OPL.mk qs z)) os order (OPL.mk qs z) nx2 H2).2 (mergeJ (backJ order os.length nx2 (OPL.mk qs z)) os order (OPL.mk qs z) nx2 H2).1 w' ∧
      Goes some E2 H2 E3 (mergeJ (backJ order os.length nx2 (OPL.mk qs z)) os order (OPL.mk qs z) nx2 H2).2 ∧
      (∀ v u, v.esc = true → RV E' (listAt (OPL.mk qs z)) v u → RV E3 (mergeJ (backJ order os.length nx2 (OPL.mk qs z)) os order (OPL.mk qs z) nx2 H2).2 (v.ren (backJ order os.length nx2 (OPL.mk qs z))) u) := by
  obtain ⟨hle, hqs⟩ := altOK_at hq
  have hlt : ∀ i ∈ order, i < nx2 := fun i hi => by
    rcases Nat.lt_or_ge i nx2 with h1 | h1
    · exact h1
    · exact (hlive i hi (h.fresh i h1)).elim
  have hobjs : (OPL.mk qs z).length = qs.length := mk_len
  obtain ⟨m1, m2, m3, m4⟩ := merge_ok (backJ order os.length nx2 (OPL.mk qs z)) os order (OPL.mk qs z) nx2 H2 F.len (by rw [hobjs]; exact hle) F.nodup hlt
  rw [hobjs] at m1 m3 m4
  generalize hmm : mergeJ (backJ order os.length nx2 (OPL.mk qs z)) os order (OPL.mk qs z) nx2 H2 = mm at m1 m2 m3 m4 ⊢
  obtain ⟨nx3, H3⟩ := mm
  simp only at m1 m2 m3 m4 ⊢
  generalize hback : backJ order os.length nx2 (OPL.mk qs z) = back at *
  obtain ⟨E3, e1, e2, e3, e4, e5⟩ := en_ex w E2 E' nx2 os.length nx3
  have hdead : ∀ i, i ∉ order → nx3 ≤ i → H3 i = none := fun i hi hn => by rw [m4 i hi (.inr (by omega))]; exact h.fresh i (by omega)
  -- what the callee was given, at a place of its own
  have given : ∀ j id, order[j]? = some id → ∃ p, os[j]? = some p := fun j id hj => by
    have := lt_of_get? hj; rw [F.len] at this
    exact ⟨os[j], List.getElem?_eq_getElem this⟩
  have shp0 : ∀ j o, j < os.length → listAt (OPL.mk qs z) j = some o → ∃ o', listAt (OPL.mk os y) j = some o' ∧ shp (some o) = shp (some o') := fun j o hj ho => by
    rcases h'.shape j hj with h1 | h1
    · rw [ho] at h1; exact (shp_some h1).elim
    · rw [ho] at h1
      have h1 : shp (some o) = shp (listAt (OPL.mk os y) j) := h1
      cases hl : listAt (OPL.mk os y) j with
      | none => rw [hl] at h1; exact (shp_some h1).elim
      | some o' => rw [hl] at h1; exact ⟨o', rfl, h1⟩
  have pin' : ∀ j, j < os.length → E'.φ j = E2.φ (order.getD j 0) := fun j hj => h'.pin j hj
  -- the caller's places
  have G : Goes some E2 H2 E3 H3 := by
    refine ⟨fun id i hn e => ?_, fun esc b c hc => ?_⟩
    · cases e
      rw [h.nx_] at hn
      refine ⟨by rw [e1]; omega, e2 _ hn, ?_⟩
      by_cases hid : id ∈ order
      · obtain ⟨j, hj⟩ := List.getElem?_of_mem hid
        obtain ⟨p, hp⟩ := given j id hj
        rw [m2 j id p hj hp]
        cases hr : p.rw with
        | false => exact .inr rfl
        | true =>
          cases ho : listAt (OPL.mk qs z) j with
          | none => exact .inl rfl
          | some o =>
            right
            have hjl := lt_of_get? hp
            obtain ⟨o', g1, g2⟩ := shp0 j o hjl ho
            obtain ⟨p', id', o2, us, q1, q2, q3, q4, q5, q8, _⟩ := F.obj j o' g1
            rw [hj] at q2; cases q2
            show shp (some (o.ren back)) = _
            rw [shp_ren, g2, q8, q3]
      · rw [m4 id hid (.inl hn)]; exact .inr rfl
    · obtain ⟨t, fz, hh⟩ := h.imOK _ _ _ hc
      rw [e4 _ _ (lt_of_get hh)]; exact hc
  -- the callee's places
  have Gb : Goes back (E'.wim E3.im) (listAt (OPL.mk qs z)) E3 H3 := by
    refine ⟨fun id i hn hi => ?_, fun _ _ _ hc => hc⟩
    rcases Nat.lt_or_ge id os.length with hid | hid
    · rw [← hback] at hi
      obtain ⟨hj, o, ho⟩ := back_lt hid hi
      have hmem := List.mem_of_getElem? hj
      have hi2 := hlt i hmem
      refine ⟨by rw [e1]; omega, ?_, ?_⟩
      · rw [e2 i hi2]
        show _ = E'.φ id
        rw [pin' id hid, getD_of hj]
      · right
        obtain ⟨o', g1, g2⟩ := shp0 id o hid ho
        obtain ⟨p', id', o2, us, q1, q2, q3, q4, q5, q8, _⟩ := F.obj id o' g1
        rw [hj] at q2; cases q2
        rw [m2 id i p' hj q1, ho]
        cases p'.rw with
        | true => exact shp_ren _ _
        | false => show shp (H2 i) = _; rw [q3, g2, q8]
    · rw [← hback] at hi
      obtain ⟨rfl, o, ho⟩ := back_ge hid hi
      have hlq := listAt_lt ho
      rw [hobjs] at hlq
      refine ⟨by rw [e1]; omega, ?_, ?_⟩
      · rw [e3 _ (by omega), show nx2 + (id - os.length) - nx2 + os.length = id from by omega]; rfl
      · right
        rw [m3 _ (by omega), show os.length + (id - os.length) = id from by omega, ho]
        exact shp_ren _ _
  have hT : ∀ b c, E'.im (some true) b = some c → E3.im (some true) b = some c := fun b c hc => by
    rcases Nat.lt_or_ge b w.heap.size with hb | hb
    · have := h'.im0 true b hb
      rw [e4 _ _ hb]
      have h2 : E'.im (some true) b = E2.im (some true) b := this.trans (hI1 b)
      rw [← h2]; exact hc
    · rw [e5 _ _ hb]; exact hc
  -- a caller's object that was not handed on to be written
  have heapKeep : ∀ id o, H2 id = some o → o.rw = true → 0 < (E2.φ id).room → (∀ (i : Nat) (p : OP), os[i]? = some p → order[i]? = some id → p.rw = false) → w'.heap[(E2.φ id).blk]? = w.heap[(E2.φ id).blk]? := fun id o ho hr hp hn => by
    obtain ⟨c, t, fz, hg⟩ := h.heapAt ho hr hp
    exact h'.keeps.block _ (lt_of_get hg) (not_own h F ho hr hp hn)
  -- every object behind the call: the caller's or the callee's
  have cases3 : ∀ i o, H3 i = some o → (i < nx2 ∧ H2 i = some o ∧ ∀ (j : Nat) (p : OP), os[j]? = some p → order[j]? = some i → p.rw = false) ∨
      ∃ j o', listAt (OPL.mk qs z) j = some o' ∧ o = o'.ren back ∧ E3.φ i = E'.φ j ∧ back j = some i ∧ (o.rw = true) ∧ (i < nx2 → ∃ o2, H2 i = some o2 ∧ o2.rw = true ∧ E3.φ i = E2.φ i) := fun i o hi => by
    rcases Nat.lt_or_ge i nx2 with hlt2 | hge
    · by_cases hmem : i ∈ order
      · obtain ⟨j, hj⟩ := List.getElem?_of_mem hmem
        obtain ⟨p, hp⟩ := given j i hj
        have hjl := lt_of_get? hp
        rw [m2 j i p hj hp] at hi
        cases hr : p.rw with
        | false =>
          rw [hr] at hi
          refine .inl ⟨hlt2, hi, fun j' p' hj' ho' => ?_⟩
          have := nodup_inj F.nodup ho' hj; subst this
          rw [hp] at hj'; cases hj'; exact hr
        | true =>
          rw [hr] at hi
          right
          cases ho : listAt (OPL.mk qs z) j with
          | none => rw [ho] at hi; cases hi
          | some o' =>
            rw [ho] at hi
            have hi : some (o'.ren back) = some o := hi
            cases hi
            obtain ⟨q, k1, k2, k3, k4⟩ := mk_obj ho
            obtain ⟨o1, g1, g2⟩ := shp0 j o' hjl ho
            obtain ⟨p', id', o2, us, q1, q2, q3, q4, q5, q8, _⟩ := F.obj j o1 g1
            rw [hj] at q2; cases q2
            rw [hp] at q1; cases q1
            refine ⟨j, o', ho, rfl, ?_, ?_, ?_, fun _ => ⟨o2, q3, q5 hr, e2 i hlt2⟩⟩
            · rw [e2 i hlt2, pin' j hjl, getD_of hj]
            · rw [← hback]; unfold backJ; rw [ho]
              have : Nat.blt j os.length = true := by rw [Nat.blt_eq]; exact hjl
              rw [this]; exact hj
            · rw [rw_ren, k3, ((hqs j q k1).2 k2).1 p hp, hr]
      · rw [m4 i hmem (.inl hlt2)] at hi
        exact .inl ⟨hlt2, hi, fun j p _ hj => (hmem (List.mem_of_getElem? hj)).elim⟩
    · have hno : i ∉ order := fun hm => by have := hlt i hm; omega
      rcases Nat.lt_or_ge i nx3 with hlt3 | hge3
      · right
        have hk := m3 (i - nx2) (by omega)
        rw [show nx2 + (i - nx2) = i from by omega, hi] at hk
        cases ho : listAt (OPL.mk qs z) (os.length + (i - nx2)) with
        | none => rw [ho] at hk; cases hk
        | some o' =>
          rw [ho] at hk
          have hk : some o = some (o'.ren back) := hk
          cases hk
          obtain ⟨q, k1, k2, k3, k4⟩ := mk_obj ho
          refine ⟨_, o', ho, rfl, ?_, ?_, ?_, fun hl => by omega⟩
          · rw [e3 i hge, Nat.add_comm]
          · rw [← hback]; unfold backJ; rw [ho]
            have : Nat.blt (os.length + (i - nx2)) os.length = false := by
              cases hb : Nat.blt (os.length + (i - nx2)) os.length with
              | false => rfl
              | true => rw [Nat.blt_eq] at hb; omega
            rw [this]; simp only [cond_false]
            rw [show os.length + (i - nx2) - os.length = i - nx2 from by omega, show nx2 + (i - nx2) = i from by omega]
          · rw [rw_ren, k3]
            exact ((hqs _ q k1).2 k2).2 (by rw [List.getElem?_eq_none]; omega)
      · rw [hdead i hno hge3] at hi; cases hi
  have calleeBlk : ∀ j o', listAt (OPL.mk qs z) j = some o' → o'.rw = true → 0 < (E'.φ j).room → ownC E2 order (OPL.mk os y) (E'.φ j).blk ∨ w.heap.size ≤ (E'.φ j).blk := fun j o' hj hr hp => (h'.own j o' hj hr hp).1
  refine ⟨E3, ⟨?_, ?_, ?_, ?_, ?_, ?_, ?_, ?_, e1, ?_, ?_, ?_, ?_⟩, G, fun v u hv k => ?_⟩
  · -- keeps
    refine h.keeps.same h'.keeps.os h'.keeps.tape h'.keeps.output h'.keeps.size fun k hk hn => h'.keeps.block k (Nat.lt_of_lt_of_le hk h.keeps.size) fun ho => ?_
    obtain ⟨i, p, id, o, h1, h2, h3, h4, h5, h6, h7⟩ := own_at F ho
    rcases (h.own id o h4 h5 h6).1 with h8 | h8
    · rw [h7] at h8; exact hn h8
    · rw [h7] at h8; omega
  · -- obj
    intro i o hi
    rcases cases3 i o hi with ⟨g1, g2, g3⟩ | ⟨j, o', g1, rfl, g3, g4, g5, g6⟩
    · have := (h.obj i o g2).go (w' := w') G (i := i) (e2 i g1) (fun hr hp => heapKeep i o g2 hr hp g3)
      rwa [JObj.ren_some] at this
    · obtain ⟨us, k1, k2⟩ := ObjOK_iff.1 (h'.obj j o' g1)
      obtain ⟨q, l1, l2, l3, l4⟩ := mk_obj g1
      have k3 := esc_Cont hT (l4 (hqs j q l1).1) k1
      refine ObjOK_iff.2 ⟨us, k3.ren Gb, ?_⟩
      rw [g3, rw_ren]
      rw [rw_ren] at g5
      rw [g5] at k2 ⊢
      exact k2
  · -- own
    intro i o hi hr hp
    rcases cases3 i o hi with ⟨g1, g2, g3⟩ | ⟨j, o', g1, rfl, g3, g4, g5, g6⟩
    · rw [e2 i g1] at hp ⊢
      refine ⟨(h.own i o g2 hr hp).1, fun esc => ?_⟩
      obtain ⟨c, t, fz, hg⟩ := h.heapAt g2 hr hp
      rw [e4 _ _ (lt_of_get hg)]
      exact (h.own i o g2 hr hp).2 esc
    · rw [rw_ren] at g5
      rw [g3] at hp ⊢
      rcases calleeBlk j o' g1 g5 hp with h1 | h1
      · obtain ⟨i', p, id, o2, s1, s2, s3, s4, s5, s6, s7⟩ := own_at F h1
        obtain ⟨t1, t2⟩ := h.own id o2 s4 s5 s6
        rw [s7] at t1 t2
        refine ⟨t1, fun esc => ?_⟩
        obtain ⟨c, t, fz, hg⟩ := h.heapAt s4 s5 s6
        rw [s7] at hg
        rw [e4 _ _ (lt_of_get hg)]; exact t2 esc
      · refine ⟨.inr (Nat.le_trans h.keeps.size h1), fun esc => ?_⟩
        rw [e5 _ _ h1]; exact (h'.own j o' g1 g5 hp).2 esc
  · -- apart
    have mixed : ∀ i o, i < nx2 → H2 i = some o → (∀ (j : Nat) (p : OP), os[j]? = some p → order[j]? = some i → p.rw = false) → o.rw = true → 0 < (E2.φ i).room → ∀ j o', listAt (OPL.mk qs z) j = some o' → o'.rw = true → 0 < (E'.φ j).room → (E2.φ i).blk ≠ (E'.φ j).blk := fun i o hi ho hn hr hp j o' hj hr' hp' he => by
      rcases calleeBlk j o' hj hr' hp' with h1 | h1
      · rw [← he] at h1; exact not_own h F ho hr hp hn h1
      · obtain ⟨c, t, fz, hg⟩ := h.heapAt ho hr hp
        have := lt_of_get hg
        rw [he] at this; omega
    intro i j x x' hx hx' hr hr' hp hp' he
    rcases cases3 i x hx with ⟨g1, g2, g3⟩ | ⟨k, o', g1, rfl, g3, g4, g5, g6⟩ <;> rcases cases3 j x' hx' with ⟨s1, s2, s3⟩ | ⟨k', o'', s1, rfl, s3, s4, s5, s6⟩
    · rw [e2 i g1] at hp he; rw [e2 j s1] at hp' he
      exact h.apart i j x x' g2 s2 hr hr' hp hp' he
    · rw [e2 i g1] at hp he; rw [s3] at hp' he; rw [rw_ren] at hr'
      exact (mixed i x g1 g2 g3 hr hp k' o'' s1 hr' hp' he).elim
    · rw [e2 j s1] at hp' he; rw [g3] at hp he; rw [rw_ren] at hr
      exact (mixed j x' s1 s2 s3 hr' hp' k o' g1 hr hp he.symm).elim
    · rw [g3] at hp he; rw [s3] at hp' he; rw [rw_ren] at hr hr'
      have := h'.apart k k' o' o'' g1 s1 hr hr' hp hp' he
      subst this
      rw [g4] at s4; cases s4; rfl
  · -- imOK
    intro esc b c hc
    rcases Nat.lt_or_ge b w.heap.size with hb | hb
    · rw [e4 _ _ hb] at hc
      obtain ⟨t, fz, hg⟩ := h.imOK _ _ _ hc
      refine ⟨t, fz, ?_⟩
      rw [h'.keeps.block b hb fun ho => ?_]; · exact hg
      obtain ⟨i, p, id, o, h1, h2, h3, h4, h5, h6, h7⟩ := own_at F ho
      have := (h.own id o h4 h5 h6).2 esc
      rw [h7, hc] at this; cases this
    · rw [e5 _ _ hb] at hc; exact h'.imOK _ _ _ hc
  · -- imS
    intro esc b c hc
    rcases Nat.lt_or_ge b w.heap.size with hb | hb
    · rw [e4 _ _ hb] at hc; exact h.imS _ _ _ hc
    · exact .inr (Nat.le_trans h.keeps.size hb)
  · -- imSub
    intro b c hc
    rcases Nat.lt_or_ge b w.heap.size with hb | hb
    · rw [e4 _ _ hb] at hc ⊢; exact h.imSub _ _ hc
    · rw [e5 _ _ hb] at hc ⊢; exact h'.imSub _ _ hc
  · intro i hi
    exact hdead i (fun hm => by have := hlt i hm; omega) hi
  · have := h.mle; omega
  · intro i hi
    have := h.mle
    rw [e2 i (by omega)]; exact h.pin i hi
  · intro e b hb
    rw [e4 _ _ (Nat.lt_of_lt_of_le hb h.keeps.size)]; exact h.im0 e b hb
  · exact h.shape_go G
  · exact RV_ren Gb (esc_RV hT hv k)
theorem callSg_ok {f : FuncId} {pin : VPL} {os : List OP} {alts : List Alt} {F : pin.T → OPL.T os → Option (AT alts)} (hf : FnOK P f pin os alts F) (ha : altsOK os alts = true) {args : List JV} {K : JV → St → Option R} {margs : List Value}
    (hK : callSg pin os alts F args st K = some r) (h : Rep S w0 E st a w) (hargs : RVL E st.H args margs) :
    ∃ fn, P.funcs[f]? = some fn ∧ fn.body.isSome = true ∧ fn.name ≠ "runtime.NumGoroutine" ∧ Calls P f margs.toArray w fun e w' => ∃ v, e = .returned v ∧ Out K r S w0 st a v w' := by
  unfold callSg at hK
  simp only at hK
  split at hK
  · rename_i st2 order x y hcan
    cases hd : disjB (prepL st.H pin args).2 (rwIds os order) with
    | false => rw [hd] at hK; cases hK
    | true =>
      rw [hd] at hK; simp only [cond_true] at hK
      split at hK
      · rename_i z hz
        obtain ⟨E2, g1, g2, Fm, ⟨vs1, hord⟩, hv⟩ := canonJ_ok h.toRepH hcan
        obtain ⟨I, hI1, hI2⟩ := im_ex w E2.im (ownC E2 order (OPL.mk os y))
        obtain ⟨hmore, hview⟩ := view_rep g1.rep Fm hI1 hI2
        have hmoreE : More E I := fun esc b c hc => hmore esc b c (by rw [g1.im]; exact hc)
        have hfroz : ∀ id ∈ (prepL st.H pin args).2, Froz w E st.H I id := by
          intro id hid o us ho hne hb
          have hidlt : id < st.nx := by
            rcases Nat.lt_or_ge id st.nx with h1 | h1
            · exact h1
            · rw [h.fresh id h1] at ho; cases ho
          unfold Blk at hb
          cases hr : o.rw with
          | false =>
            rw [hr] at hb
            obtain ⟨_, c, h1, h2⟩ := hb
            obtain ⟨t, fz, hg⟩ := h.imOK _ _ _ h1
            refine ⟨c, (hI2 _ (by simp) _ _).2 ⟨fun hown => ?_, _, _, hg⟩, h2⟩
            obtain ⟨i, p, id', o', s1, s2, s3, s4, s5, s6, s7⟩ := own_at Fm hown
            have := (g1.rep.own id' o' s4 s5 s6).2 none
            rw [s7, g1.im, h1] at this; cases this
          | true =>
            rw [hr] at hb
            obtain ⟨c, t, lo, hi, h1, _, _, h2, h3⟩ := hb
            refine ⟨c, (hI2 _ (by simp) _ _).2 ⟨fun hown => ?_, _, _, h1⟩, h3⟩
            obtain ⟨i, p, id', o', s1, s2, s3, s4, s5, s6, s7⟩ := own_at Fm hown
            have hroom : 0 < (E.φ id).room := by
              have : 0 < us.length := List.length_pos_iff.2 hne
              omega
            have hphi := g1.phi id (by rw [h.nx_]; exact hidlt)
            have hne2 : st2.H id ≠ none := fun e => by rw [(g1.live id (by rw [h.nx_]; exact hidlt)).1 e] at ho; cases ho
            cases ho2 : st2.H id with
            | none => exact hne2 ho2
            | some o2 =>
              have hr2 : o2.rw = true := (g1.rwf id o o2 (by rw [h.nx_]; exact hidlt) ho ho2).trans hr
              have := g1.rep.apart id' id o' o2 s4 ho2 s5 hr2 s6 (by rw [hphi]; exact hroom) (by rw [s7, hphi])
              subst this
              exact disj_at hd _ hid (rwIds_mem s1 s3 s2)
        have hargs1 := prepL_RVL h.toRepH hmoreE pin args margs hfroz hargs
        have hsubI : ∀ b c, I (some true) b = some c → I (some false) b = some c := hview.imSub
        have hargs2 := hv I hsubI margs hargs1
        obtain ⟨fn, f1, f2, f3, f4⟩ := hf x y z hz _ w _ margs rfl hview hargs2
        refine ⟨fn, f1, f2, f3, f4.mono ?_⟩
        rintro e w' ⟨v, rfl, E', q, hq, hrv, hrep⟩
        obtain ⟨k1, k2⟩ := altsOK_at ha (altGet_mem hq)
        obtain ⟨E3, r1, r2, r3⟩ := back_rep g1.rep Fm (by rw [hord]; exact order_live) k2 hI1 hrep
        rw [altK_get hq] at hK
        refine ⟨v, rfl, E3, _, _, hK, rfl, r3 _ v (mk_esc _ _ k1) hrv, { r1 with env := fun i => ?_, defers := h.defers }⟩
        have := RV_ren r2 (g1.RV (h.env i))
        rwa [ren_some] at this
      · cases hK
  · cases hK
end Go.Eng

namespace Go.Eng
variable {R : Type} {P : Program}
theorem altK_on {X : JV → List (Option JObj) → Option R} {Y : JV → List (Option JObj) → Option PK} {K : JV → St → Option R} (h : ∀ v o, X v o = on (Y v o) K) : ∀ (l : List Alt) (z : AT l), altK X l z = on (altK Y l z) K
  | [], z => rfl
  | [a], z => h _ _
  | a :: b :: l, .inl x => h _ _
  | a :: b :: l, .inr y => altK_on h (b :: l) y
theorem callSg_nat {pin : VPL} {os : List OP} {alts : List Alt} {F : pin.T → OPL.T os → Option (AT alts)} {args : List JV} {st : St} {K : JV → St → Option R} : callSg pin os alts F args st K = on (callSg pin os alts F args st pk) K := by
  unfold callSg
  simp only []
  split
  · rw [on_cond]; congr 1
    split
    · refine altK_on (fun v o => ?_) _ _; rfl
    · rfl
  · rfl
structure Entry (P : Program) where
  f : FuncId
  pin : VPL
  os : List OP
  alts : List Alt
  F : pin.T → OPL.T os → Option (AT alts)
  ok : FnOK P f pin os alts F
  alt : altsOK os alts = true
def hasF (f : FuncId) : List (Entry P) → Bool
  | [] => false
  | c :: r => Nat.beq f c.f || hasF f r
def tableJ {R : Type} : List (Entry P) → CallJ R
  | [], _, _, _, _ => none
  | c :: r, f, args, st, K => cond (Nat.beq f c.f) (cond (hasF f r && !fitsJ c.pin c.os args st) (tableJ r f args st K) (callSg c.pin c.os c.alts c.F args st K)) (tableJ r f args st K)
theorem table_ok : ∀ (l : List (Entry P)), CallOK P (tableJ (R := R) l)
  | [] => fun f args st K r h => by cases h
  | c :: l => fun f args st K r h S w0 E a w margs hR hargs => by
    unfold tableJ at h
    cases hb : Nat.beq f c.f with
    | true =>
      rw [hb] at h
      simp only [cond_true] at h
      have := Nat.eq_of_beq_eq_true hb
      subst this
      cases hh : (hasF c.f l && !fitsJ c.pin c.os args st) with
      | true => rw [hh] at h; exact table_ok l c.f args st K r h S w0 E a w margs hR hargs
      | false => rw [hh] at h; exact callSg_ok c.ok c.alt h hR hargs
    | false => rw [hb] at h; exact table_ok l f args st K r h S w0 E a w margs hR hargs
theorem table_nat : ∀ (l : List (Entry P)), CallNat (tableJ (R := R) l) (tableJ l)
  | [] => fun f args st K => rfl
  | c :: l => fun f args st K => by
    unfold tableJ; rw [on_cond, on_cond, ← callSg_nat, ← table_nat l f args st K]
end Go.Eng

namespace Go.Eng
def imW (W : World) (b : Nat) : Option (Array Value) := match W.heap[b]? with
  | some (.cells c _ _) => some c
  | _ => none
def E0 (W : World) : En := ⟨0, fun _ => ⟨0, 0, 0⟩, fun _ b => imW W b⟩
def S0 (W : World) : Sc := ⟨fun _ => False, 0, fun _ => ⟨0, 0, 0⟩, fun _ b => imW W b, fun _ => .none⟩
theorem imW_some {W : World} {b : Nat} {c : Array Value} (h : imW W b = some c) : ∃ t fz, W.heap[b]? = some (.cells c t fz) := by
  unfold imW at h
  split at h
  · rename_i c' t fz hb; cases h; exact ⟨t, fz, hb⟩
  · cases h
theorem imW_lt {W : World} {b : Nat} {c : Array Value} (h : imW W b = some c) : b < W.heap.size := by
  obtain ⟨t, fz, hb⟩ := imW_some h
  exact lt_of_get hb
theorem rep0 (W : World) (sz : W.heap.size ≤ W.heap.size) : RepH (S0 W) W (E0 W) (fun _ => none) 0 W where
  keeps := ⟨rfl, rfl, rfl, Nat.le_refl _, fun _ _ _ => rfl⟩
  obj := fun id o h => by cases h
  own := fun id o h => by cases h
  apart := fun i j a b h => by cases h
  imOK := fun esc b c h => imW_some h
  imS := fun esc b c h => .inl ⟨imW_lt h, fun x => x⟩
  imSub := fun b c h => h
  fresh := fun _ _ => rfl
  nx_ := rfl
  mle := Nat.le_refl _
  pin := fun i h => (Nat.not_lt_zero i h).elim
  im0 := fun e b _ => rfl
  shape := fun i h => (Nat.not_lt_zero i h).elim
theorem law_calls {P : Program} {f : FuncId} {pin : VPL} {F : pin.T → OPL.T [] → Option (AT [(.bool, [])])} (hok : FnOK P f pin [] [(.bool, [])] F) {x : pin.T} (hF : F x () = some (true, ())) {W : World} {args : List Value}
    (hargs : RVL (E0 W) (fun _ => none) (pin.mk x) args) : Calls P f args.toArray W fun e W' => e = .returned (.bool true) ∧ Go.RowKit.Below W.heap.size W W' := by
  have hl : ∀ l : List (Option JObj), l = [] → listAt l = fun _ => none := fun l h => by subst h; funext i; rfl
  obtain ⟨fn, _, _, _, h⟩ := hok x () _ hF (S0 W) W (E0 W) args rfl (rep0 W (Nat.le_refl _)) hargs
  refine h.mono fun e W' h => ?_
  obtain ⟨v, rfl, E', q, hq, hv, hR⟩ := h
  simp only [altGet] at hq
  cases hq
  have hv : RV E' _ (.bool true) v := hv
  have : v = .bool true := by simpa [RV, RV1, RC] using hv
  subst this
  exact ⟨rfl, hR.keeps.os, hR.keeps.tape, hR.keeps.output, hR.keeps.size, fun k hk => hR.keeps.block k hk (fun x => x)⟩
end Go.Eng

namespace Go.Eng
variable {H : Type} {enc : TypeId × Value → H} {P : Program} {W : World} {sp : Nat → Bool} {held : Bool}
theorem mapM_at {α β : Type} {f : α → Option β} : ∀ {l : List α} {ys : List β}, l.mapM f = some ys → ys.length = l.length ∧ ∀ (i : Nat) (x : α), l[i]? = some x → ∃ y, ys[i]? = some y ∧ f x = some y
  | [], ys, h => by simp at h; subst h; simp
  | a :: l, ys, h => by
    rw [List.mapM_cons] at h
    cases ha : f a with
    | none => rw [ha] at h; simp at h
    | some b =>
      rw [ha] at h
      cases hl : l.mapM f with
      | none => rw [hl] at h; simp at h
      | some bs =>
        rw [hl] at h
        simp at h
        subst h
        obtain ⟨h1, h2⟩ := mapM_at hl
        refine ⟨by simp [h1], fun i x hx => ?_⟩
        cases i with
        | zero => simp at hx; subst hx; exact ⟨b, rfl, ha⟩
        | succ i => simpa using h2 i x (by simpa using hx)
def okS : (s : SK) → s.T → Prop
  | .int k, n => inK k n
  | .bool, _ => True
  | .str, l => l.length ≤ reachBytes
  | .lst k, l => l.length ≤ reachBytes ∧ ∀ x ∈ l, inK k x
  | .arr k n, l => l.length = n ∧ ∀ x ∈ l, inK k x
def okR : (ss : List SK) → RT ss → Prop
  | [], _ => True
  | [s], x => okS s x
  | s :: t :: r, x => okS s x.1 ∧ okR (t :: r) x.2
def okE : (e : EK) → e.T → Prop
  | .one s, x => okS s x
  | .many ss, x => okR ss x
mutual
def okV : (p : VP) → p.T → Prop
  | .int k, n => inK k n
  | .str, l => l.length ≤ reachBytes
  | .lst _ e, l => l.length ≤ reachBytes ∧ ∀ x ∈ l, okE e x
  | .arr k n, l => l.length = n ∧ ∀ x ∈ l, inK k x
  | .agg ps, x => okVL ps x
  | _, _ => True
def okVL : (p : VPL) → p.T → Prop
  | .nil, _ => True
  | .cons p r, x => okV p x.1 ∧ okVL r x.2
end
def intsC (P : Program) : Nat → TypeId → Option (IntKind × Nat)
  | 0, _ => none
  | n + 1, t => match P.underlying t with
    | some (.int k) => some (k, 1)
    | some (.array m e) => match intsC P n e with
      | some (k, c) => cond (Nat.beq (P.cellsOf e) c && Nat.beq (P.cellsOf t) (m * c)) (some (k, m * c)) none
      | none => none
    | _ => none
def fieldsC (P : Program) (g : TypeId → Option (List SK)) : List Field → Nat → Option (List SK)
  | [], _ => some []
  | f :: fs, off => cond (Nat.beq f.offset off) (match g f.type with
    | some a => cond (Nat.beq (P.cellsOf f.type) (sksW a)) (match fieldsC P g fs (off + sksW a) with
      | some b => some (a ++ b)
      | none => none) none
    | none => none) none
def sksC (P : Program) : Nat → TypeId → Option (List SK)
  | 0, _ => none
  | n + 1, t => match P.underlying t with
    | some (.int k) => some [.int k]
    | some .bool => some [.bool]
    | some .string => some [.str]
    | some (.slice e) => match P.underlying e with
      | some (.int k) => cond (Nat.beq (P.cellsOf e) 1 && Nat.ble 1 (P.bytesOf e)) (some [.lst k]) none
      | _ => none
    | some (.array m e) => match intsC P 4 t with
      | some (k, c) => some [.arr k c]
      | none => none
    | some (.struct fs) => match fieldsC P (sksC P n) fs.toList 0 with
      | some ss => cond (Nat.beq (P.cellsOf t) (sksW ss)) (some ss) none
      | none => none
    | _ => none
theorem RTR_append {E : En} : ∀ {ss ss' : List SK} {x : RT ss} {y : RT ss'} {a b : List Value}, RTR E ss x a → RTR E ss' y b → okR ss x → okR ss' y → ∃ z : RT (ss ++ ss'), RTR E (ss ++ ss') z (a ++ b) ∧ okR (ss ++ ss') z
  | [], ss', x, y, a, b, h, h', o, o' => by simp only [RTR] at h; subst h; exact ⟨y, h', o'⟩
  | [s], [], x, y, a, b, h, h', o, o' => by simp only [RTR] at h'; subst h'; exact ⟨x, by show RTR E [s] x (a ++ []); rw [List.append_nil]; exact h, o⟩
  | [s], t :: r, x, y, a, b, h, h', o, o' => ⟨(x, y), ⟨a, b, rfl, h, h'⟩, o, o'⟩
  | s :: t :: r, ss', x, y, a, b, h, h', o, o' => by
    obtain ⟨a1, a2, rfl, h1, h2⟩ := h
    obtain ⟨z, hz, oz⟩ := RTR_append h2 h' o.2 o'
    exact ⟨(x.1, z), ⟨a1, a2 ++ b, by rw [List.append_assoc], h1, hz⟩, o.1, oz⟩
theorem wf_inK {k : IntKind} {n : Int} (h : (Lit.int k n).wf = true) : inK k n := by
  simp only [Lit.wf, Bool.and_eq_true, decide_eq_true_eq] at h; exact h
theorem open_ints : ∀ {n : Nat} {t : TypeId} {k : IntKind} {c : Nat} {fuel : Nat} {cs : List Value} {x : DataW H × List MemPlace}, intsC P n t = some (k, c) → DataW.trod enc P W 0 sp held fuel t cs = some x →
    ∃ l : List Int, cs = l.map (Value.int k) ∧ l.length = c ∧ ∀ y ∈ l, inK k y
  | 0, t, k, c, fuel, cs, x, hc, h => by cases hc
  | n + 1, t, k, c, 0, cs, x, hc, h => by cases h
  | n + 1, t, k, c, fuel + 1, cs, x, hc, h => by
    simp only [intsC] at hc
    split at hc
    · rename_i k' hu
      cases hc
      unfold DataW.trod at h
      rw [hu] at h
      match cs, h with
      | [.int k1 m], h =>
        simp only [] at h
        split at h
        · rename_i hk; obtain ⟨rfl, hw⟩ := hk
          exact ⟨[m], rfl, rfl, fun y hy => by simp at hy; subst hy; exact wf_inK hw⟩
        · cases h
    · rename_i m e hu
      split at hc
      · rename_i k' c' he
        cases hb : (Nat.beq (P.cellsOf e) c' && Nat.beq (P.cellsOf t) (m * c')) with
        | false => rw [hb] at hc; cases hc
        | true =>
          rw [hb] at hc; cases hc
          rw [Bool.and_eq_true] at hb
          have b1 := Nat.eq_of_beq_eq_true hb.1
          have b2 := Nat.eq_of_beq_eq_true hb.2
          unfold DataW.trod at h
          rw [hu] at h
          simp only [] at h
          split at h
          · rename_i hlen
            rw [b2] at hlen
            rw [b1] at h
            cases hm : ((List.range m).mapM fun i => DataW.trod enc P W 0 sp held fuel e ((cs.drop (i * c')).take c')) with
            | none => rw [hm] at h; cases h
            | some ys =>
              obtain ⟨_, h2⟩ := mapM_at hm
              have key : ∀ d i, i + d = m → ∃ l : List Int, cs.drop (i * c') = l.map (Value.int k) ∧ l.length = d * c' ∧ ∀ y ∈ l, inK k y := by
                intro d
                induction d with
                | zero =>
                  intro i hi
                  refine ⟨[], ?_, by simp, by simp⟩
                  rw [show i = m by omega, List.drop_eq_nil_of_le (by omega)]; rfl
                | succ d ih =>
                  intro i hi
                  obtain ⟨l2, q1, q2, q3⟩ := ih (i + 1) (by omega)
                  obtain ⟨y, _, hy⟩ := h2 i i (by rw [List.getElem?_range (by omega)])
                  obtain ⟨l1, p1, p2, p3⟩ := open_ints he hy
                  refine ⟨l1 ++ l2, ?_, ?_, fun y hy => ?_⟩
                  · rw [List.map_append, ← p1, ← q1, show (i + 1) * c' = i * c' + c' by rw [Nat.succ_mul], ← List.drop_drop, List.take_append_drop]
                  · rw [List.length_append, p2, q2, Nat.succ_mul, Nat.add_comm]
                  · rcases List.mem_append.1 hy with hy | hy
                    · exact p3 y hy
                    · exact q3 y hy
              obtain ⟨l, q1, q2, q3⟩ := key m 0 (by omega)
              rw [Nat.zero_mul, List.drop_zero] at q1
              exact ⟨l, q1, q2, q3⟩
          · cases h
      · cases hc
    · cases hc
theorem ints_list {k : IntKind} : ∀ {c : List Value} {n : Nat}, c.length = n → (∀ (i : Nat) (v : Value), c[i]? = some v → ∃ m, v = Value.int k m ∧ inK k m) → ∃ l : List Int, c = l.map (Value.int k) ∧ l.length = n ∧ ∀ y ∈ l, inK k y
  | [], n, hn, h => ⟨[], rfl, by simpa using hn, by simp⟩
  | v :: c, n, hn, h => by
    obtain ⟨m, rfl, hm⟩ := h 0 v rfl
    obtain ⟨l, rfl, h2, h3⟩ := ints_list (c := c) (n := c.length) rfl fun i v hv => h (i + 1) v (by simpa using hv)
    exact ⟨m :: l, rfl, by simp at hn ⊢; omega, fun y hy => by
      rcases List.mem_cons.1 hy with rfl | hy
      · exact hm
      · exact h3 y hy⟩
theorem add_block (a : Addr) (n : Nat) : (a.add n).block = a.block := by unfold Addr.add; split <;> rfl
theorem add_off (a : Addr) (n : Nat) : (a.add n).off = a.off + n := by
  unfold Addr.add; split
  · rename_i h; subst h; rfl
  · rfl
theorem cells_row {a : Addr} {c : Nat} {us : List Value} (h : W.cells? 0 a c = some us) : us.length = c ∧ ∀ j, j < c → ∃ C t fz, W.heap[a.block]? = some (.cells C t fz) ∧ (j = 0 → a.spot = none) ∧ C[a.off + j]? = us[j]? ∧ (us[j]?).isSome := by
  unfold World.cells? at h
  rw [if_pos (Nat.zero_le _)] at h
  obtain ⟨h1, h2⟩ := mapM_at h
  rw [List.length_range] at h1
  refine ⟨h1, fun j hj => ?_⟩
  obtain ⟨y, hy, hc⟩ := h2 j j (by rw [List.getElem?_range hj])
  unfold World.cell? at hc
  split at hc
  · rename_i C t fz hb
    split at hc
    · cases hc
    · rename_i hs
      rw [add_block] at hb
      refine ⟨C, t, fz, hb, fun hj0 => ?_, ?_, by rw [hy]; rfl⟩
      · have : (a.add j).spot = a.spot := by subst hj0; rfl
        rw [this] at hs
        cases ha : a.spot with
        | none => rfl
        | some s => rw [ha] at hs; simp at hs
      · rw [hy, ← hc, add_off]
  · cases hc
theorem open_row {a : Addr} {w len : Nat} {C : Array Value} {t : TypeId} {fz : Nat × Nat} {e : EK} (hw : 1 ≤ w) (hew : e.w = w) (hb : W.heap[a.block]? = some (.cells C t fz))
    (hel : ∀ i, i < len → ∃ us, W.cells? 0 (a.add (i * w)) w = some us ∧ ∃ x : e.T, EKR (E0 W) e x us ∧ okE e x) : ∀ d i, i + d = len → ∃ l : List e.T, l.length = d ∧ (∀ x ∈ l, okE e x) ∧ EKL (E0 W) e l ((C.toList.drop (a.off + i * w)).take (d * w))
  | 0, i, hi => ⟨[], rfl, by simp, by simp [EKL]⟩
  | d + 1, i, hi => by
    obtain ⟨us, h1, x, h2, ox⟩ := hel i (by omega)
    obtain ⟨h3, h4⟩ := cells_row h1
    obtain ⟨l, q1, q0, q2⟩ := open_row hw hew hb hel d (i + 1) (by omega)
    have hus : (C.toList.drop (a.off + i * w)).take w = us := by
      apply List.ext_getElem?
      intro j
      rw [List.getElem?_take, List.getElem?_drop]
      by_cases hj : j < w
      · rw [if_pos hj]
        obtain ⟨C', t', fz', g1, _, g2, _⟩ := h4 j hj
        rw [add_block, hb] at g1; cases g1
        rw [← g2, Array.getElem?_toList, add_off]
      · rw [if_neg hj, List.getElem?_eq_none (by omega)]
    refine ⟨x :: l, by simp [q1], fun y hy => by rcases List.mem_cons.1 hy with rfl | hy; exact ox; exact q0 y hy, us, _, ?_, h2, q2⟩
    rw [show (d + 1) * w = w + d * w by rw [Nat.succ_mul, Nat.add_comm], List.take_add, hus, List.drop_drop, show a.off + (i + 1) * w = a.off + i * w + w by rw [Nat.succ_mul]; omega]
theorem open_lst {t e : TypeId} {fuel : Nat} {cs : List Value} {x : DataW H × List MemPlace} {ek : EK} {w : Nat} (hu : P.underlying t = some (.slice e)) (hw : 1 ≤ w) (hew : ek.w = w) (hc : P.cellsOf e = w) (hby : 1 ≤ P.bytesOf e)
    (hel : ∀ fuel us (y : DataW H × List MemPlace), DataW.trod enc P W 0 sp held fuel e us = some y → us.length = w → (∀ n ∈ y.1.weights P e, n ≤ reachBytes) → ∃ x : ek.T, EKR (E0 W) ek x us ∧ okE ek x) (hz : ∀ n ∈ x.1.weights P t, n ≤ reachBytes) (h : DataW.trod enc P W 0 sp held fuel t cs = some x) :
    ∃ l : List ek.T, l.length ≤ ML ∧ (l.length ≤ reachBytes ∧ ∀ x ∈ l, okE ek x) ∧ ∃ base cap, cs = [.slice base l.length cap] ∧ l.length ≤ cap ∧ ∃ vs, EKL (E0 W) ek l vs ∧ (l = [] ∨ ∃ b o, base = some ⟨b, o, none⟩ ∧ ImAt (E0 W) true b o vs) := by
  cases fuel with
  | zero => cases h
  | succ fuel =>
    unfold DataW.trod at h
    rw [hu] at h
    match cs, h with
    | [.slice none 0 0], h => exact ⟨[], Nat.zero_le _, ⟨Nat.zero_le _, by simp⟩, none, 0, rfl, Nat.le_refl _, [], rfl, .inl rfl⟩
    | [.slice (some a) len cap], h =>
      simp only [] at h
      split at h
      · rename_i hcond
        obtain ⟨_, h1, h2⟩ := hcond
        cases hm : ((List.range len).mapM fun i => (W.cells? 0 (a.add (i * P.cellsOf e)) (P.cellsOf e)).bind (DataW.trod enc P W 0 sp held fuel e)) with
        | none => rw [hm] at h; cases h
        | some ys =>
          rw [hm] at h
          obtain ⟨hyl, h4⟩ := mapM_at hm
          rw [List.length_range] at hyl
          obtain ⟨rest, hx⟩ : ∃ rest, x.1 = .slice (ys.map (·.1)) rest := by
            simp only [Option.bind_some] at h
            split at h
            · cases hq : ((List.range (cap - len)).mapM fun j => (W.cells? 0 (a.add ((len + j) * P.cellsOf e)) (P.cellsOf e)).bind (DataW.trod enc P W 0 sp held fuel e)) with
              | none => rw [hq] at h; cases h
              | some r => rw [hq] at h; cases h; exact ⟨_, rfl⟩
            · cases h; exact ⟨_, rfl⟩
          rw [hx] at hz
          simp only [DataW.weights, hu] at hz
          have hlr : len ≤ reachBytes := by
            have h5 := hz _ (List.mem_cons_self ..)
            rw [List.length_map, hyl] at h5
            have h6 : (len + rest.length) * 1 ≤ (len + rest.length) * P.bytesOf e := Nat.mul_le_mul_left _ hby
            omega
          have hyw : ∀ (y : DataW H × List MemPlace), y ∈ ys → ∀ n ∈ y.1.weights P e, n ≤ reachBytes := by
            have : ∀ (l : List (DataW H × List MemPlace)), (∀ n ∈ DataW.weightsAll P e (l.map (·.1)), n ≤ reachBytes) → ∀ y, y ∈ l → ∀ n ∈ y.1.weights P e, n ≤ reachBytes := by
              intro l
              induction l with
              | nil => intro _ y hy; cases hy
              | cons z l ih =>
                intro hw y hy
                simp only [List.map_cons, DataW.weightsAll, List.mem_append] at hw
                rcases List.mem_cons.1 hy with rfl | hy
                · exact fun n hn => hw n (.inl hn)
                · exact ih (fun n hn => hw n (.inr hn)) y hy
            exact this ys fun n hn => hz n (List.mem_cons_of_mem _ (List.mem_append_left _ hn))
          have hML : len ≤ ML := by have : maxLen = ML := by decide
                                    omega
          rcases Nat.eq_zero_or_pos len with h0 | h0
          · subst h0; exact ⟨[], Nat.zero_le _, ⟨Nat.zero_le _, by simp⟩, some a, cap, rfl, Nat.zero_le _, [], rfl, .inl rfl⟩
          · have hel' : ∀ i, i < len → ∃ us, W.cells? 0 (a.add (i * w)) w = some us ∧ ∃ x : ek.T, EKR (E0 W) ek x us ∧ okE ek x := fun i hi => by
              obtain ⟨y, hyi, hy⟩ := h4 i i (by rw [List.getElem?_range hi])
              rw [hc] at hy
              cases hus : W.cells? 0 (a.add (i * w)) w with
              | none => rw [hus] at hy; cases hy
              | some us =>
                rw [hus] at hy
                obtain ⟨x, hx, ox⟩ := hel fuel us y hy (cells_row hus).1 (hyw y (List.mem_of_getElem? hyi))
                exact ⟨us, rfl, x, hx, ox⟩
            obtain ⟨us0, hus0, _⟩ := hel' 0 h0
            obtain ⟨C, ct, fz, hb, hs, _, _⟩ := (cells_row hus0).2 0 hw
            rw [add_block] at hb
            have hs : a.spot = none := by have := hs rfl; rw [Nat.zero_mul] at this; exact this
            obtain ⟨l, q1, q0, q2⟩ := open_row hw hew hb hel' len 0 (by omega)
            rw [Nat.zero_mul, Nat.add_zero] at q2
            refine ⟨l, by omega, ⟨by omega, q0⟩, some a, cap, by rw [q1], by omega, _, q2, .inr ⟨a.block, a.off, by cases a; simp_all, C, ?_, ?_⟩⟩
            · show imW W a.block = some C
              unfold imW; rw [hb]
            · rw [EKL_len q2, q1, hew]
      · cases h
theorem open_sks : ∀ {n : Nat} {t : TypeId} {ss : List SK} {fuel : Nat} {cs : List Value} {x : DataW H × List MemPlace}, sksC P n t = some ss → DataW.trod enc P W 0 sp held fuel t cs = some x → (∀ n ∈ x.1.weights P t, n ≤ reachBytes) → ∃ y : RT ss, RTR (E0 W) ss y cs ∧ okR ss y
  | 0, t, ss, fuel, cs, x, hc, h, hz => by cases hc
  | n + 1, t, ss, 0, cs, x, hc, h, hz => by cases h
  | n + 1, t, ss, fuel + 1, cs, x, hc, h, hz => by
    have hall := h
    simp only [sksC] at hc
    split at hc
    · rename_i k hu
      cases hc
      unfold DataW.trod at h
      rw [hu] at h
      match cs, h with
      | [.int k1 m], h =>
        simp only [] at h
        split at h
        · rename_i hk; obtain ⟨rfl, hw⟩ := hk
          exact ⟨m, ⟨rfl, wf_inK hw⟩, wf_inK hw⟩
        · cases h
    · rename_i hu
      cases hc
      unfold DataW.trod at h
      rw [hu] at h
      match cs, h with
      | [.bool b], h => exact ⟨b, rfl, trivial⟩
    · rename_i hu
      cases hc
      unfold DataW.trod at h
      rw [hu] at h
      match cs, h with
      | [.string s], h =>
        simp only [] at h
        split at h
        · rename_i hs
          have e1 : maxLen = ML := by decide
          have e : s.data.size = s.size := rfl
          cases h
          simp only [DataW.weights, List.mem_singleton, Array.length_toList] at hz
          have := hz _ rfl
          refine ⟨bytesOf s, ⟨s, rfl, rfl, ?_⟩, ?_⟩
          · simp only [bytesOf, List.length_map, Array.length_toList]; omega
          · show (bytesOf s).length ≤ _
            simp only [bytesOf, List.length_map, Array.length_toList]; exact this
        · cases h
    · rename_i e hu
      split at hc
      · rename_i k he
        cases hb : (Nat.beq (P.cellsOf e) 1 && Nat.ble 1 (P.bytesOf e)) with
        | false => rw [hb] at hc; cases hc
        | true =>
          rw [hb] at hc; cases hc
          rw [Bool.and_eq_true] at hb
          obtain ⟨l, h1, ho, base, cap, rfl, h2, vs, h3, h4⟩ := open_lst (ek := .one (.int k)) (w := 1) hu (Nat.le_refl _) rfl (Nat.eq_of_beq_eq_true hb.1) (Nat.le_of_ble_eq_true hb.2) (fun fuel us y hy _ _ => by
            cases fuel with
            | zero => cases hy
            | succ fuel =>
              unfold DataW.trod at hy
              rw [he] at hy
              match us, hy with
              | [.int k1 m], hy =>
                simp only [] at hy
                split at hy
                · rename_i hk; obtain ⟨rfl, hw⟩ := hk
                  exact ⟨m, ⟨rfl, wf_inK hw⟩, wf_inK hw⟩
                · cases hy) hz hall
          obtain ⟨rfl, h5⟩ := EKL_int.1 h3
          exact ⟨l, ⟨h5, h1, base, cap, rfl, h2, h4⟩, ho.1, h5⟩
      · cases hc
    · rename_i m e hu
      split at hc
      · rename_i k c hi
        cases hc
        obtain ⟨l, h1, h2, h3⟩ := open_ints hi hall
        exact ⟨l, ⟨h1, h2, h3⟩, h2, h3⟩
      · cases hc
    · rename_i fs hu
      split at hc
      · rename_i ss' hf
        cases hb : Nat.beq (P.cellsOf t) (sksW ss') with
        | false => rw [hb] at hc; cases hc
        | true =>
          rw [hb] at hc; cases hc
          have hb := Nat.eq_of_beq_eq_true hb
          unfold DataW.trod at h
          rw [hu] at h
          simp only [] at h
          split at h
          · rename_i hlen
            cases hm : (fs.toList.mapM fun f => DataW.trod enc P W 0 sp held fuel f.type ((cs.drop f.offset).take (P.cellsOf f.type))) with
            | none => rw [hm] at h; cases h
            | some ys =>
              rw [hm] at h
              simp only [Option.map_some, Option.some.injEq] at h
              subst h
              simp only [DataW.weights, hu] at hz
              have key : ∀ (fs : List Field) (ys : List (DataW H × List MemPlace)) (off : Nat) (ss : List SK), fieldsC P (sksC P n) fs off = some ss → (fs.mapM fun f => DataW.trod enc P W 0 sp held fuel f.type ((cs.drop f.offset).take (P.cellsOf f.type))) = some ys → 
                  cs.length = off + sksW ss → (∀ n ∈ DataW.weightsEach P (fs.map (·.type)) (ys.map (·.1)), n ≤ reachBytes) → ∃ y : RT ss, RTR (E0 W) ss y (cs.drop off) ∧ okR ss y := by
                intro fs
                induction fs with
                | nil =>
                  intro ys off ss hs _ hl _
                  simp only [fieldsC, Option.some.injEq] at hs
                  subst hs
                  refine ⟨(), ?_, trivial⟩
                  simp only [sksW] at hl
                  simp only [RTR]
                  exact List.drop_eq_nil_of_le (by omega)
                | cons f fs ih =>
                  intro ys off ss hs hm hl hz
                  simp only [fieldsC] at hs
                  cases ho : Nat.beq f.offset off with
                  | false => rw [ho] at hs; cases hs
                  | true =>
                    rw [ho] at hs
                    simp only [cond_true] at hs
                    have ho := Nat.eq_of_beq_eq_true ho
                    split at hs
                    · rename_i a ha
                      cases hcw : Nat.beq (P.cellsOf f.type) (sksW a) with
                      | false => rw [hcw] at hs; cases hs
                      | true =>
                        rw [hcw] at hs
                        simp only [cond_true] at hs
                        have hcw := Nat.eq_of_beq_eq_true hcw
                        split at hs
                        · rename_i b hb'
                          cases hs
                          rw [List.mapM_cons] at hm
                          cases hf1 : DataW.trod enc P W 0 sp held fuel f.type ((cs.drop f.offset).take (P.cellsOf f.type)) with
                          | none => rw [hf1] at hm; simp at hm
                          | some y1 =>
                            rw [hf1] at hm
                            cases hf2 : (fs.mapM fun f => DataW.trod enc P W 0 sp held fuel f.type ((cs.drop f.offset).take (P.cellsOf f.type))) with
                            | none => rw [hf2] at hm; simp at hm
                            | some ys2 =>
                              rw [hf2] at hm
                              have hm : some (y1 :: ys2) = some ys := hm
                              cases hm
                              simp only [List.map_cons, DataW.weightsEach, List.mem_append] at hz
                              obtain ⟨z1, r1, o1⟩ := open_sks (n := n) ha hf1 (fun n hn => hz n (.inl hn))
                              rw [sksW_append] at hl
                              obtain ⟨z2, r2, o2⟩ := ih ys2 (off + sksW a) b hb' hf2 (by omega) (fun n hn => hz n (.inr hn))
                              obtain ⟨z, r, o⟩ := RTR_append r1 r2 o1 o2
                              refine ⟨z, ?_, o⟩
                              rw [ho, hcw, ← List.drop_drop, List.take_append_drop] at r
                              exact r
                        · cases hs
                    · cases hs
              obtain ⟨y, hy, oy⟩ := key fs.toList ys 0 ss hf hm (by omega) hz
              rw [List.drop_zero] at hy
              exact ⟨y, hy, oy⟩
          · cases h
      · cases hc
    · cases hc
where
  sksW_append : ∀ {a b : List SK}, sksW (a ++ b) = sksW a + sksW b
    | [], b => by simp [sksW]
    | s :: a, b => by simp only [List.cons_append, sksW, sksW_append (a := a) (b := b)]; omega
end Go.Eng

