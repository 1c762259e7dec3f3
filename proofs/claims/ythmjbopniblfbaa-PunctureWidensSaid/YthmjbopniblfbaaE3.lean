/- The engine, part 3: a second reading of the code over values and lists, and that it is right. No condition. -/
import Derived.Test.YthmjbopniblfbaaE2
import Derived.Below
import Derived.Handed
import Derived.ChangeMaps5
import Derived.Carry
import Derived.ChangeOld
import Derived.ChangeCalls
import Derived.SizedLaws
import Derived.OpenShut
import Derived.ChangeShapes
set_option linter.unusedVariables false
set_option linter.unusedSimpArgs false
/- Loops by their forms; functions. No condition. -/
namespace Go.Eng
variable {R : Type} {P : Program} {S : Sc} {w0 w : World} {E : En} {st : St} {a : Act} {r : R} {H : Nat → Option JObj} {nx : Nat}
theorem reach_pre (H : Nat → Option JObj) : ∀ (n : Nat) (l acc : List Nat), ∃ t, reach H n l acc = acc ++ t
  | 0, l, acc => ⟨[], by cases l <;> simp [reach]⟩
  | n + 1, [], acc => ⟨[], by simp [reach]⟩
  | n + 1, i :: r, acc => by
    unfold reach
    cases memB i acc with
    | true => exact reach_pre H n r acc
    | false =>
      simp only [cond_false]
      split
      · obtain ⟨t, e⟩ := reach_pre H n (_ ++ r) (acc ++ [i])
        exact ⟨i :: t, by rw [e]; simp⟩
      · exact reach_pre H n r acc
theorem order_pin {m : Nat} {vs : List JV} {i : Nat} (hi : i < m) : (orderJ H m vs)[i]? = some i := by
  unfold orderJ
  obtain ⟨t, e⟩ := reach_pre H 99 ((List.range m).flatMap (objIds H) ++ idsL vs) (List.range m)
  rw [e, List.getElem?_append_left (by simpa using hi)]
  simp [hi]
theorem order_le {m : Nat} {vs : List JV} : m ≤ (orderJ H m vs).length := by
  unfold orderJ
  obtain ⟨t, e⟩ := reach_pre H 99 ((List.range m).flatMap (objIds H) ++ idsL vs) (List.range m)
  rw [e]; simp
theorem eqB_iff {a b : Bool} (h : eqB a b = true) : a = b := by cases a <;> cases b <;> first | rfl | cases h
theorem rwOK_at : ∀ {os : List OP} {order : List Nat}, rwOK H os order = true → ∀ (i : Nat) (p : OP) (id : Nat) (o : JObj), os[i]? = some p → order[i]? = some id → H id = some o → p ≠ .gone → p.rw = o.rw
  | [], _, _, i, p, id, o, h1, _, _, _ => by simp at h1
  | _ :: _, [], _, i, p, id, o, _, h2, _, _ => by simp at h2
  | q :: os, j :: order, h, i, p, id, o, h1, h2, h3, h4 => by
    simp only [rwOK, Bool.and_eq_true] at h
    cases i with
    | succ i => exact rwOK_at h.2 i p id o (by simpa using h1) (by simpa using h2) h3 h4
    | zero =>
      simp only [List.getElem?_cons_zero, Option.some.injEq] at h1 h2
      subst h1 h2
      have h := h.1
      rw [h3] at h
      cases q with
      | gone => exact (h4 rfl).elim
      | box ps rw => cases o <;> exact eqB_iff h
      | row e rw => cases o <;> exact eqB_iff h
theorem mk_gone : ∀ {os : List OP} {y : OPL.T os} {i : Nat}, os[i]? = some .gone → listAt (OPL.mk os y) i = none
  | [], _, i, h => by simp at h
  | p :: os, y, 0, h => by
    simp only [List.getElem?_cons_zero, Option.some.injEq] at h; subst h; rfl
  | p :: os, y, i + 1, h => by
    have := mk_gone (os := os) (y := y.2) (i := i) (by simpa using h)
    simpa [OPL.mk, listAt] using this
theorem canon_rep {ps : VPL} {os : List OP} {vs : List JV} {st2 : St} {order : List Nat} {x : ps.T} {y : OPL.T os} (h : RepH S w0 E st.H st.nx w) (hc : canonJ S.m ps os vs st = some (st2, order, x, y)) (hr : rwOK st2.H os order = true) :
    ∃ E', RepH S w0 E' (listAt (OPL.mk os y)) os.length w ∧ ∀ us, RVL E st.H vs us → RVL E' (listAt (OPL.mk os y)) (ps.mk x) us := by
  obtain ⟨E2, g1, g2, F, ⟨vs1, ho⟩, hv⟩ := canonJ_ok h hc
  have hrep := F.rep (S := S) g1.rep (by rw [ho]; exact order_le) (fun i hi => by rw [ho]; exact order_pin hi) (fun i p id o h1 h2 h3 h4 => rwOK_at hr i p id o h1 h2 h3 fun e => by subst e; exact h4 (mk_gone h1))
  refine ⟨E2.at order, by rw [← F.len]; exact hrep, fun us hus => ?_⟩
  have := hv E.im h.imSub us hus
  rw [← g1.im] at this; exact this
theorem look_ok {f : Nat → Value} : ∀ {slots : List Nat} {vs : List JV}, RVL E H vs (slots.map f) → ∀ i, RV E H (lookL slots vs i) (f i)
  | [], [], _, i => trivial
  | [], _ :: _, h, i => by obtain ⟨_, _, h, _⟩ := h; cases h
  | _ :: _, [], h, i => trivial
  | s :: ss, v :: vs, ⟨u, b, e, h1, h2⟩, i => by
    simp only [List.map_cons, List.cons.injEq] at e
    obtain ⟨rfl, rfl⟩ := e
    unfold lookL
    cases hb : Nat.beq i s with
    | true => rw [Nat.eq_of_beq_eq_true hb]; exact h1
    | false => exact look_ok h2 i
theorem slots_ok (h : Rep S w0 E st a w) : ∀ (l : List Nat), RVL E st.H (l.map st.env) (l.map fun i => a.tmps.getD i undef)
  | [] => rfl
  | i :: l => ⟨_, _, rfl, h.env i, slots_ok h l⟩
theorem cut_rep {slots : List Nat} {ps : VPL} {os : List OP} {F : ps.T → OPL.T os → Option R} (h : Rep S w0 E st a w) (hc : cutJ S.m slots ps os F st = some r) :
    ∃ E' x y, F x y = some r ∧ Rep S w0 E' (stAt slots ps os x y) a w := by
  unfold cutJ at hc
  split at hc
  · rename_i st2 order x y hcan
    cases hrw : rwOK st2.H os order with
    | false => rw [hrw] at hc; cases hc
    | true =>
      rw [hrw] at hc
      obtain ⟨E', h1, h2⟩ := canon_rep h.toRepH hcan hrw
      exact ⟨E', x, y, hc, { h1 with env := look_ok (h2 _ (slots_ok h slots)), defers := h.defers }⟩
  · cases hc
theorem Lof_ok {k : Nat} (h : Rep S w0 E st a w) : ∀ {cuts : List (Cut R)} {n : Nat}, Lof S.m k cuts n st = some r → ∃ c ∈ cuts, n = c.id ∧ ∃ E' x y, c.F k x y = some r ∧ Rep S w0 E' (stAt c.slots c.ps c.os x y) a w
  | [], n, hL => by cases hL
  | c :: cuts, n, hL => by
    unfold Lof at hL
    cases hb : Nat.beq n c.id with
    | true =>
      rw [hb] at hL
      exact ⟨c, by simp, Nat.eq_of_beq_eq_true hb, cut_rep h hL⟩
    | false =>
      rw [hb] at hL
      obtain ⟨c', h1, h2⟩ := Lof_ok h hL
      exact ⟨c', by simp [h1], h2⟩
theorem LOK_all {C : CallJ R} {C' : CallJ PK} (hC : CallOK P C) (hN : CallNat C C') (hC' : CallOK P C') (hmo : P.follows .mixedOrders = true) {cuts : List (Cut R)} {n : Nat} {body : Code} {K : JX → St → Option R} {Q : Exit → Act → World → Prop} (hd : dstsOk n body = true) (hQ : KOK S w0 n r K Q)
    (h0 : ∀ c ∈ cuts, ∀ x y, c.F 0 x y = none) (hstep : ∀ c ∈ cuts, ∀ k x y, c.F (k + 1) x y = roundJ P C (Lof S.m k cuts) c.id body K (stAt c.slots c.ps c.os x y)) : ∀ k, LOK P S w0 n r (Lof S.m k cuts) body Q
  | 0 => fun c' Q' hat st hL E a w hR hn => by
    obtain ⟨c, hc, _, E', x, y, hF, _⟩ := Lof_ok hR hL
    rw [h0 c hc] at hF; cases hF
  | k + 1 => roundJ_ok hC hN hC' hmo hd (LOK_all hC hN hC' hmo hd hQ h0 hstep k) hQ fun m st hL E a w hR hn => by
    obtain ⟨c, hc, rfl, E', x, y, hF, hR'⟩ := Lof_ok hR hL
    rw [hstep c hc] at hF
    exact ⟨E', _, hF, hR'⟩
/-! ### functions -/
def altGet : (l : List Alt) → AT l → Option ((a : Alt) × Alt.T a)
  | [], _ => none
  | [a], x => some ⟨a, x⟩
  | a :: b :: r, s => match s with
    | .inl x => some ⟨a, x⟩
    | .inr y => altGet (b :: r) y
theorem altK_get {K : JV → List (Option JObj) → Option R} : ∀ {l : List Alt} {z : AT l} {q : (a : Alt) × Alt.T a}, altGet l z = some q → altK K l z = K (q.1.1.mk q.2.1) (OPL.mk q.1.2 q.2.2)
  | [], z, q, h => by cases h
  | [a], z, q, h => by cases h; rfl
  | a :: b :: l, .inl x, q, h => by cases h; rfl
  | a :: b :: l, .inr y, q, h => altK_get (l := b :: l) (z := y) h
theorem altGet_mem : ∀ {l : List Alt} {z : AT l} {q : (a : Alt) × Alt.T a}, altGet l z = some q → q.1 ∈ l
  | [], z, q, h => by cases h
  | [a], z, q, h => by cases h; simp
  | a :: b :: l, .inl x, q, h => by cases h; simp
  | a :: b :: l, .inr y, q, h => List.mem_cons_of_mem _ (altGet_mem (l := b :: l) (z := y) h)
/-- What is known of a function. -/
def FnOK (P : Program) (f : FuncId) (pin : VPL) (os : List OP) (alts : List Alt) (F : pin.T → OPL.T os → Option (AT alts)) : Prop :=
  ∀ x y z, F x y = some z → ∀ (S : Sc) w E margs, S.m = os.length → RepH S w E (listAt (OPL.mk os y)) os.length w → RVL E (listAt (OPL.mk os y)) (pin.mk x) margs →
    ∃ fn, P.funcs[f]? = some fn ∧ fn.body.isSome = true ∧ fn.name ≠ "runtime.NumGoroutine" ∧ Calls P f margs.toArray w fun e w' => ∃ v, e = .returned v ∧
      ∃ E' q, altGet alts z = some q ∧ RV E' (listAt (OPL.mk q.1.2 q.2.2)) (q.1.1.mk q.2.1) v ∧ RepH S w E' (listAt (OPL.mk q.1.2 q.2.2)) q.1.2.length w'
theorem retA_ok {v : JV} : ∀ {l : List Alt} {f : AT l → R}, retA S.m v st l f = some r → RepH S w0 E st.H st.nx w → ∃ z q E', r = f z ∧ altGet l z = some q ∧ RepH S w0 E' (listAt (OPL.mk q.1.2 q.2.2)) q.1.2.length w ∧ ∀ u, RV E st.H v u → RV E' (listAt (OPL.mk q.1.2 q.2.2)) (q.1.1.mk q.2.1) u
  | [], f, h, hR => by cases h
  | [a], f, h, hR => by
    simp only [retA] at h
    split at h
    · rename_i st2 order x y hcan
      cases hrw : rwOK st2.H a.2 order with
      | false => rw [hrw] at h; cases h
      | true =>
        rw [hrw] at h; cases h
        obtain ⟨E', h1, h2⟩ := canon_rep hR hcan hrw
        refine ⟨(x.1, y), ⟨a, (x.1, y)⟩, E', rfl, rfl, h1, fun u hu => ?_⟩
        obtain ⟨u', b, e, h3, _⟩ := h2 [u] ⟨u, [], rfl, hu, rfl⟩
        cases e; exact h3
    · cases h
  | a :: b :: l, f, h, hR => by
    simp only [retA] at h
    split at h
    · rename_i st2 order x y hcan
      cases hrw : rwOK st2.H a.2 order with
      | false => rw [hrw] at h; cases h
      | true =>
        rw [hrw] at h; cases h
        obtain ⟨E', h1, h2⟩ := canon_rep hR hcan hrw
        refine ⟨.inl (x.1, y), ⟨a, (x.1, y)⟩, E', rfl, rfl, h1, fun u hu => ?_⟩
        obtain ⟨u', b, e, h3, _⟩ := h2 [u] ⟨u, [], rfl, hu, rfl⟩
        cases e; exact h3
    · obtain ⟨z, q, E', h1, h2⟩ := retA_ok (l := b :: l) h hR
      exact ⟨.inr z, q, E', h1, h2⟩
def resV (a : Act) (x : ResultVar) : Sem Value := match x with
  | .tmp t => pure (a.tmps.getD t undef)
  | .cell q t => do loadVar t (← asAddr (a.tmps.getD q undef))
theorem cell_ok {t : TypeId} {jv v : JV} {x : Value} (h : Rep S w0 E st a w) (hv : RV E st.H jv x) (hK : viewJ jv st (fun cs => match takeAt cs (sizeJ P t) with
      | some cs => asVal P t cs
      | none => none) = some v) : ∃ y, (loadVar t =<< asAddr x).run P w = .ok y w ∧ RV E st.H v y := by
  obtain ⟨cs, hK, b, o, us, rfl, hr, hcell⟩ := viewJ_ok h hv hK
  split at hK
  · rename_i cs' ht
    obtain ⟨h1, h2⟩ := takeAt_ok ht hr
    obtain ⟨d, hd, hm⟩ := asVal_ok hK h1
    have hload : (loadCells ⟨b, o, none⟩ (sizeJ P t)).run P w = .ok (us.take (sizeJ P t)).toArray w :=
      load_run (fun j x hj => hcell j x (by rw [List.getElem?_take] at hj; split at hj; exact hj; cases hj)) (by rw [List.length_take]; omega)
    show ∃ y, (loadVar t ⟨b, o, none⟩).run P w = .ok y w ∧ RV E st.H v y
    simp only [loadVar, isAgg, Sem.run_bind, Sem.run_pure, Result.andThen_ok, run_underlying hd]
    cases d <;> simp only [Sem.run_pure, Result.andThen_ok, if_true, Bool.false_eq_true, if_false, Sem.run_bind, run_sizeOf hd] at hm ⊢
    case struct fs => rw [hload]; exact ⟨_, rfl, hm⟩
    case array n e => rw [hload]; exact ⟨_, rfl, hm⟩
    all_goals
      obtain ⟨x, hx, hm⟩ := hm
      refine ⟨x, ?_, hm⟩
      have h0 : us[0]? = some x := by
        have : (us.take (sizeJ P t))[0]? = some x := by rw [hx]; rfl
        rw [List.getElem?_take] at this; split at this
        · exact this
        · cases this
      have := hcell 0 x h0
      rw [run_load]
      rw [Nat.add_zero] at this; rw [this]
  · cases hK
theorem resJ_ok (h : Rep S w0 E st a w) : ∀ {l : List ResultVar} {vs : List JV}, resJ P st l = some vs → ∃ xs, (l.mapM (resV a)).run P w = .ok xs w ∧ RV1l E st.H vs xs ∧ RVL E st.H vs xs
  | [], vs, hr => by cases hr; exact ⟨[], rfl, rfl, rfl⟩
  | .cell q t :: l, vs, hr => by
    simp only [resJ] at hr
    split at hr
    · rename_i vs' hr'
      obtain ⟨xs, h1, h2, h3⟩ := resJ_ok h hr'
      split at hr
      · cases hr
      · rename_i v hv hc
        cases hr
        obtain ⟨x, g1, g2⟩ := cell_ok (P := P) h (h.env q) hc
        refine ⟨x :: xs, ?_, ⟨_, _, rfl, ?_, h2⟩, ⟨_, _, rfl, g2, h3⟩⟩
        · rw [List.mapM_cons, Sem.run_bind]
          show Result.andThen ((loadVar t =<< asAddr (a.tmps.getD q undef)).run P w) _ = _
          rw [g1, Result.andThen_ok, Sem.run_bind, h1]; rfl
        · rwa [RV_tup hv] at g2
      · cases hr
    · cases hr
  | .tmp t :: l, vs, hr => by
    simp only [resJ] at hr
    split at hr
    · rename_i vs' hr'
      obtain ⟨xs, h1, h2, h3⟩ := resJ_ok h hr'
      have he := h.env t
      split at hr
      · cases hr
      · rename_i hv
        cases hr
        refine ⟨a.tmps.getD t undef :: xs, ?_, ⟨_, _, rfl, ?_, h2⟩, ⟨_, _, rfl, he, h3⟩⟩
        · rw [List.mapM_cons, Sem.run_bind]
          show Result.andThen (.ok (a.tmps.getD t undef) w) _ = _
          rw [Result.andThen_ok, Sem.run_bind, h1]; rfl
        · rwa [RV_tup hv] at he
    · cases hr
theorem RVL_len : ∀ {vs : List JV} {us : List Value}, RVL E H vs us → us.length = vs.length
  | [], _, h => by simp only [RVL] at h; subst h; rfl
  | _ :: _, _, ⟨_, _, e, _, h⟩ => by subst e; simp [RVL_len h]
theorem results_ok (h : Rep S w0 E st a w) {fn : Func} {vs : List JV} (hr : resJ P st fn.results.toList = some vs) : ∃ v, (results fn a.tmps).run P w = .ok v w ∧ RV E st.H (oneJ vs) v := by
  obtain ⟨xs, h1, h2, h3⟩ := resJ_ok (P := P) h hr
  have hl := RVL_len h3
  have e : results fn a.tmps = (do let vs ← fn.results.mapM (resV a); pure (if h : vs.size = 1 then vs[0] else .tuple vs)) := rfl
  have h4 : (results fn a.tmps).run P w = .ok (if h : xs.toArray.size = 1 then xs.toArray[0] else .tuple xs.toArray) w := by
    rw [e, Array.mapM_eq_mapM_toList, Sem.run_bind, map_eq_pure_bind, Sem.run_bind, h1]; rfl
  refine ⟨_, h4, ?_⟩
  match vs, h2, h3, hl with
  | [], h2, h3, hl => 
    rw [dif_neg (by simp [hl])]; exact ⟨_, rfl, h2⟩
  | [v], h2, h3, hl =>
    obtain ⟨u, b, rfl, h5, h6⟩ := h3
    simp only [RVL] at h6; subst h6
    exact h5
  | v :: v' :: vs, h2, h3, hl =>
    rw [dif_neg (by simp [hl])]; exact ⟨_, rfl, h2⟩
theorem arg_list : ∀ {vs : List JV} {us : List Value} (l : List Value), RVL E H vs us → ∀ i, RV E H (argAt vs i) ((us ++ l).getD i undef)
  | [], us, l, h, i => by cases i <;> trivial
  | v :: vs, us, l, ⟨u, b, e, h1, h2⟩, 0 => by subst e; exact h1
  | v :: vs, us, l, ⟨u, b, e, h1, h2⟩, i + 1 => by
    subst e
    have := arg_list l h2 i
    simpa [argAt] using this
theorem arg_ok {vs : List JV} {us : List Value} (n : Nat) (h : RVL E H vs us) (i : Nat) : RV E H (argAt vs i) ((us.toArray ++ Array.replicate n undef).getD i undef) := by
  have := arg_list (List.replicate n undef) h i
  rw [Array.getD_eq_getD_getElem?]
  rw [List.getD_eq_getElem?_getD] at this
  have e : us.toArray ++ Array.replicate n undef = (us ++ List.replicate n undef).toArray := by simp
  rw [e, List.getElem?_toArray]; exact this
theorem fn_ok {alts : List Alt} {C : CallJ (AT alts)} {C' : CallJ PK} (hC : CallOK P C) (hN : CallNat C C') (hC' : CallOK P C') (hmo : P.follows .mixedOrders = true) {f : FuncId} {fn : Func} {body : Code} {pin : VPL} {os : List OP} {cuts : List (Cut (AT alts))} {k : Nat} {F : pin.T → OPL.T os → Option (AT alts)}
    (hf : P.funcs[f]? = some fn) (hb : fn.body = some body) (hname : fn.name ≠ "runtime.NumGoroutine") (hd : dstsOk fn.ntmps body = true) (hlen : ∀ x, (pin.mk x).length ≤ fn.ntmps)
    (h0 : ∀ c ∈ cuts, ∀ x y, c.F 0 x y = none) (hstep : ∀ c ∈ cuts, ∀ k x y, c.F (k + 1) x y = roundJ P C (Lof os.length k cuts) c.id body (endJ P os.length fn.results.toList alts) (stAt c.slots c.ps c.os x y))
    (hF : ∀ x y, F x y = codeJ P C (Lof os.length k cuts) body (st0 pin os x y) (endJ P os.length fn.results.toList alts)) : FnOK P f pin os alts F := by
  intro x y z hz S w E margs hm hR hargs
  refine ⟨fn, hf, by rw [hb]; rfl, hname, calls_of_wp hf hb ?_⟩
  rw [hF, ← hm] at hz
  have hQ : KOK S w fn.ntmps z (endJ P S.m fn.results.toList alts) (bodyPost P fn fun e w' => ∃ v, e = .returned v ∧ ∃ E' q, altGet alts z = some q ∧ RV E' (listAt (OPL.mk q.1.2 q.2.2)) (q.1.1.mk q.2.1) v ∧ RepH S w E' (listAt (OPL.mk q.1.2 q.2.2)) q.1.2.length w') := by
    intro e st hK E a w' hRep hn
    have fin : ∀ vs, resJ P st fn.results.toList = some vs → retA S.m (oneJ vs) st alts id = some z → a.defers = [] ∧ ∃ v, (results fn a.tmps).run P w' = .ok v w' ∧ ∃ v_1, Ending.returned v = .returned v_1 ∧ ∃ E' q, altGet alts z = some q ∧ RV E' (listAt (OPL.mk q.1.2 q.2.2)) (q.1.1.mk q.2.1) v_1 ∧ RepH S w E' (listAt (OPL.mk q.1.2 q.2.2)) q.1.2.length w' := by
      intro vs h1 h2
      obtain ⟨v, g1, g2⟩ := results_ok (P := P) hRep h1
      obtain ⟨z', q, E', e1, e2, e3, e4⟩ := retA_ok h2 hRep.toRepH
      cases e1
      exact ⟨hRep.defers, v, g1, v, rfl, E', q, e2, e4 v g2, e3⟩
    cases e with
    | exit id => cases hK
    | normal =>
      simp only [endJ] at hK
      split at hK
      · rename_i vs h1; exact fin vs h1 hK
      · cases hK
    | ret =>
      simp only [endJ] at hK
      split at hK
      · rename_i vs h1; exact fin vs h1 hK
      · cases hK
  have hl : margs.length = (pin.mk x).length := by
    have : ∀ {vs : List JV} {us : List Value}, RVL E (listAt (OPL.mk os y)) vs us → us.length = vs.length := by
      intro vs
      induction vs with
      | nil => intro us h; simp only [RVL] at h; subst h; rfl
      | cons v vs ih => rintro us ⟨u, b, rfl, _, h⟩; simp [ih h]
    exact this hargs
  have hstep' : ∀ c ∈ cuts, ∀ k x y, c.F (k + 1) x y = roundJ P C (Lof S.m k cuts) c.id body (endJ P S.m fn.results.toList alts) (stAt c.slots c.ps c.os x y) := by rw [hm]; exact hstep
  refine codeJ_ok hC hN hC' hmo hd (LOK_all hC hN hC' hmo hd hQ h0 hstep' k) hQ hz (E := E) ?_ ?_
  · exact { hR with env := arg_ok _ hargs, defers := rfl }
  · have := hlen x
    simp; omega
end Go.Eng

/- Calls by what is known of a function. No condition. -/
namespace Go.Eng
variable {R : Type} {P : Program} {S : Sc} {w0 w : World} {E : En} {st : St} {a : Act} {r : R} {H : Nat → Option JObj} {nx : Nat}
/-! ### rows handed on to be read alone -/
/-- The row's cells are no one's to write, in this account. -/
def Froz (w : World) (E : En) (H : Nat → Option JObj) (I : Option Bool → Nat → Option (Array Value)) (id : Nat) : Prop :=
  ∀ o us, H id = some o → us ≠ [] → Blk w E (E.φ id) o.rw us → ∃ c, I (some false) (E.φ id).blk = some c ∧ (c.toList.drop (E.φ id).off).take us.length = us
def More (E : En) (I : Option Bool → Nat → Option (Array Value)) : Prop := ∀ esc b c, E.im esc b = some c → I esc b = some c
theorem goes_im {I : Option Bool → Nat → Option (Array Value)} (h : More E I) : Goes some E H (E.wim I) H := ⟨fun id i hn e => by cases e; exact ⟨hn, rfl, .inr rfl⟩, h⟩
theorem take_drop_len {α : Type} (l : List α) (o n m : Nat) (us : List α) (h : (l.drop o).take us.length = us) : (l.drop (o + n)).take ((us.drop n).take m).length = (us.drop n).take m := by
  have h1 : us.drop n = (l.drop (o + n)).take (us.length - n) := by
    conv => lhs; rw [← h]
    rw [List.drop_take, List.drop_drop]
  rw [h1, List.take_take, List.take_eq_take_iff]
  simp
theorem prep_row (h : RepH S w0 E H nx w) {I : Option Bool → Nat → Option (Array Value)} {id : Nat} {e : EK} {l : List e.T} {rw : Bool} (ho : H id = some (.row e l rw)) (hm : More E I) (hI : Froz w E H I id) (hw : 1 ≤ e.w) {off n : Nat} {v : Value}
    (hn : off + n ≤ l.length) (hs : SlOK (E.φ id) e.w off n l.length v) : RC (E.wim I) H (.lst false e ((l.drop off).take n)) [v] := by
  obtain ⟨us, hc, hb⟩ := ObjOK_iff.1 (h.obj id _ ho)
  have hl : ((l.drop off).take n).length = n := by simp; omega
  obtain ⟨base, cap, rfl, hle, hN, hroom, hbase⟩ := hs
  have hk : EKL (E.wim I) e l us := hc.1.mono (E' := E.wim I) hm
  have h1 := EKL_take n (EKL_drop off hk)
  refine ⟨by rw [hl]; exact Nat.le_trans (by omega) hc.2, base, cap, by rw [hl], by rw [hl]; exact hle, _, h1, ?_⟩
  rcases Nat.eq_zero_or_pos n with h0 | h0
  · left; subst h0; simp
  · right
    have hcap : cap ≠ 0 := by omega
    have hus : us ≠ [] := by
      intro e0
      have h2 := EKL_len hc.1
      have h3 : 1 * 1 ≤ l.length * e.w := Nat.mul_le_mul (by omega) hw
      rw [← h2, e0] at h3; exact absurd h3 (by decide)
    obtain ⟨c, h2, h3⟩ := hI _ us ho hus (hb.resolve_left fun x => hus x.1)
    refine ⟨_, _, hbase.resolve_left hcap, c, h2, ?_⟩
    exact take_drop_len _ _ _ _ _ h3
mutual
theorem prep_RC (h : RepH S w0 E H nx w) {I : Option Bool → Nat → Option (Array Value)} (hm : More E I) : ∀ (p : VP) (v : JV) (us : List Value), (∀ id ∈ (prep H p v).2, Froz w E H I id) → RC E H v us → RC (E.wim I) H (prep H p v).1 us
  | p, v, us, hf, hv => by
    have triv : ∀ {v : JV} {us : List Value}, RC E H v us → RC (E.wim I) H v us := fun k => by
      have := RC_ren (goes_im (H := H) hm) _ _ k; rwa [ren_some] at this
    cases p with
    | lst esc e =>
      cases esc with
      | true => exact triv hv
      | false =>
        cases v with
        | full id =>
          unfold prep at hf ⊢
          split
          · rename_i e' l rw ho
            simp only [ho] at hf
            split
            · rename_i l' hl
              obtain ⟨rfl, hl'⟩ := castL_inv hl
              cases hl'
              simp only [hl] at hf
              cases hb : Nat.ble 1 e'.w with
              | false => exact triv hv
              | true =>
                rw [hb] at hf
                obtain ⟨_, u, rfl, _, hs⟩ := hv
                have := prep_row h ho hm (hf id (by simp)) (Nat.le_of_ble_eq_true hb) (off := 0) (n := l.length) (by omega) (hs e' l.length (by rw [ho]; rfl))
                simpa using this
            · exact triv hv
          · exact triv hv
        | sl id off n =>
          unfold prep at hf ⊢
          split
          · rename_i e' l rw ho
            simp only [ho] at hf
            split
            · rename_i l' hl
              obtain ⟨rfl, hl'⟩ := castL_inv hl
              cases hl'
              simp only [hl] at hf
              cases hb : Nat.ble 1 e'.w with
              | false => exact triv hv
              | true =>
                rw [hb] at hf
                obtain ⟨_, u, rfl, _, hs⟩ := hv
                obtain ⟨h1, h2⟩ := hs e' l.length (by rw [ho]; rfl)
                exact prep_row h ho hm (hf id (by simp)) (Nat.le_of_ble_eq_true hb) h1 h2
            · exact triv hv
          · exact triv hv
        | _ => exact triv hv
    | agg ps =>
      cases v with
      | agg vs => exact hv.elim
      | _ => exact triv hv
    | _ => exact triv hv
theorem prepL_RCs (h : RepH S w0 E H nx w) {I : Option Bool → Nat → Option (Array Value)} (hm : More E I) : ∀ (p : VPL) (vs : List JV) (us : List Value), (∀ id ∈ (prepL H p vs).2, Froz w E H I id) → RCs E H vs us → RCs (E.wim I) H (prepL H p vs).1 us
  | p, vs, us, hf, hv => by
    have triv : ∀ {v : List JV} {us : List Value}, RCs E H v us → RCs (E.wim I) H v us := fun k => by
      have := RCs_ren (goes_im (H := H) hm) _ _ k; rwa [renL_some] at this
    cases p with
    | nil => cases vs <;> exact triv hv
    | cons p ps =>
      cases vs with
      | nil => exact triv hv
      | cons v vs =>
        obtain ⟨x, y, e, h1, h2⟩ := hv
        simp only [prepL, List.mem_append] at hf ⊢
        exact ⟨x, y, e, prep_RC h hm p v x (fun id hi => hf id (.inl hi)) h1, prepL_RCs h hm ps vs y (fun id hi => hf id (.inr hi)) h2⟩
end
theorem prep_RV (h : RepH S w0 E H nx w) {I : Option Bool → Nat → Option (Array Value)} (hm : More E I) {p : VP} {v : JV} {u : Value} (hf : ∀ id ∈ (prep H p v).2, Froz w E H I id) (hv : RV E H v u) : RV (E.wim I) H (prep H p v).1 u := by
  have triv : RV (E.wim I) H v u := by have := RV_ren (goes_im (H := H) hm) hv; rwa [ren_some] at this
  cases p with
  | lst esc e =>
    cases esc with
    | true => exact triv
    | false =>
      cases v with
      | full id =>
        have := prep_RC h hm (.lst false e) (.full id) [u] hf hv
        revert this; unfold prep; split <;> (try split) <;> (try (cases hb : Nat.ble 1 e.w)) <;> exact fun q => q
      | sl id off n =>
        have := prep_RC h hm (.lst false e) (.sl id off n) [u] hf hv
        revert this; unfold prep; split <;> (try split) <;> (try (cases hb : Nat.ble 1 e.w)) <;> exact fun q => q
      | _ => exact triv
  | agg ps =>
    cases v with
    | agg vs =>
      obtain ⟨xs, e, k⟩ := hv
      exact ⟨xs, e, prepL_RCs h hm ps vs _ hf k⟩
    | _ => exact triv
  | _ => exact triv
theorem prepL_RVL (h : RepH S w0 E H nx w) {I : Option Bool → Nat → Option (Array Value)} (hm : More E I) : ∀ (p : VPL) (vs : List JV) (us : List Value), (∀ id ∈ (prepL H p vs).2, Froz w E H I id) → RVL E H vs us → RVL (E.wim I) H (prepL H p vs).1 us
  | p, vs, us, hf, hv => by
    have triv : ∀ {v : List JV} {us : List Value}, RVL E H v us → RVL (E.wim I) H v us := fun k => by
      have := (goes_im (H := H) hm).RVL k; rwa [renL_some] at this
    cases p with
    | nil => cases vs <;> exact triv hv
    | cons p ps =>
      cases vs with
      | nil => exact triv hv
      | cons v vs =>
        obtain ⟨x, y, e, h1, h2⟩ := hv
        simp only [prepL, List.mem_append] at hf ⊢
        exact ⟨x, y, e, prep_RV h hm (fun id hi => hf id (.inl hi)) h1, prepL_RVL h hm ps vs y (fun id hi => hf id (.inr hi)) h2⟩
/-! ### values that hold nothing for a while -/
mutual
def JV.esc : JV → Bool
  | .lst esc _ _ => esc
  | .pim esc cs => esc && escL cs
  | .fn _ cs => escL cs
  | .agg cs => escL cs
  | .tup cs => escL cs
  | _ => true
def escL : List JV → Bool
  | [] => true
  | v :: r => v.esc && escL r
end
mutual
theorem mk_esc : ∀ (p : VP) (x : p.T), p.esc = true → (p.mk x).esc = true
  | .int _, _, _ | .bool, _, _ | .str, _, _ | .nilp, _, _ | .nils, _, _ | .nilf, _, _ | .junk, _, _ | .ptr _ _, _, _ | .full _, _, _ | .sl _, _, _ | .arr _ _, _, _ => rfl
  | .lst esc e, x, h => h
  | .fn f caps, x, h => mkL_esc caps x h
  | .agg ps, x, h => mkL_esc ps x h
  | .tup ps, x, h => mkL_esc ps x h
theorem mkL_esc : ∀ (p : VPL) (x : p.T), p.esc = true → escL (p.mk x) = true
  | .nil, _, _ => rfl
  | .cons p r, x, h => by
    simp only [VPL.esc, Bool.and_eq_true] at h
    simp only [VPL.mk, escL, Bool.and_eq_true]
    exact ⟨mk_esc p x.1 h.1, mkL_esc r x.2 h.2⟩
end
mutual
theorem esc_RC {I : Option Bool → Nat → Option (Array Value)} (h : ∀ b c, E.im (some true) b = some c → I (some true) b = some c) : ∀ (v : JV) (us : List Value), v.esc = true → RC E H v us → RC (E.wim I) H v us
  | .int k n, us, _, k' => k'
  | .bool b, us, _, k' => k'
  | .str l, us, _, k' => k'
  | .nilp, us, _, k' => k'
  | .nils, us, _, k' => k'
  | .nilf, us, _, k' => k'
  | .ptr id off, us, _, k' => k'
  | .pdyn id off d, us, _, k' => k'
  | .pel id d c, us, _, k' => k'
  | .full id, us, _, k' => k'
  | .sl id off len, us, _, k' => k'
  | .lst esc e l, us, he, k' => by
    simp only [JV.esc] at he; subst he
    obtain ⟨hml, base, cap, hu, hc, vs, hk, hor⟩ := k'
    refine ⟨hml, base, cap, hu, hc, vs, hk.monoT h, hor.imp id ?_⟩
    rintro ⟨b, o, hb, c, h1, h2⟩
    exact ⟨b, o, hb, c, h _ _ h1, h2⟩
  | .pim esc cs, us, he, k' => by
    simp only [JV.esc, Bool.and_eq_true] at he
    obtain ⟨rfl, he⟩ := he
    obtain ⟨b, o, vs, hu, hr, c, h1, h2⟩ := k'
    exact ⟨b, o, vs, hu, esc_RCs h cs vs he hr, c, h _ _ h1, h2⟩
  | .fn g caps, us, he, k' => by
    obtain ⟨cs, hu, hr⟩ := k'
    exact ⟨cs, hu, esc_RVl h caps _ he hr⟩
  | .arr k n l, us, _, k' => k'
  | .agg cs, us, _, k' => k'.elim
  | .tup cs, us, _, k' => k'.elim
  | .junk, us, _, k' => k'
theorem esc_RCs {I : Option Bool → Nat → Option (Array Value)} (h : ∀ b c, E.im (some true) b = some c → I (some true) b = some c) : ∀ (v : List JV) (us : List Value), escL v = true → RCs E H v us → RCs (E.wim I) H v us
  | [], _, _, k => k
  | c :: r, us, he, ⟨x, y, e, h1, h2⟩ => by
    simp only [escL, Bool.and_eq_true] at he
    exact ⟨x, y, e, esc_RC h c x he.1 h1, esc_RCs h r y he.2 h2⟩
theorem esc_RVl {I : Option Bool → Nat → Option (Array Value)} (h : ∀ b c, E.im (some true) b = some c → I (some true) b = some c) : ∀ (v : List JV) (us : List Value), escL v = true → RVl E H v us → RVl (E.wim I) H v us
  | [], _, _, k => k
  | c :: r, us, he, ⟨x, y, e, hf, h1, h2⟩ => by
    simp only [escL, Bool.and_eq_true] at he
    exact ⟨x, y, e, hf, esc_RC h c [x] he.1 h1, esc_RVl h r y he.2 h2⟩
end
theorem esc_RV1 {I : Option Bool → Nat → Option (Array Value)} (h : ∀ b c, E.im (some true) b = some c → I (some true) b = some c) {v : JV} {u : Value} (he : v.esc = true) (k : RV1 E H v u) : RV1 (E.wim I) H v u := by
  cases v
  case junk => trivial
  case agg cs => obtain ⟨xs, e, k⟩ := k; exact ⟨xs, e, esc_RCs h cs _ he k⟩
  case arr k n l => exact k
  all_goals exact esc_RC h _ [u] he k
theorem esc_RV1l {I : Option Bool → Nat → Option (Array Value)} (h : ∀ b c, E.im (some true) b = some c → I (some true) b = some c) : ∀ {v : List JV} {us : List Value}, escL v = true → RV1l E H v us → RV1l (E.wim I) H v us
  | [], _, _, k => k
  | c :: r, us, he, ⟨x, y, e, h1, h2⟩ => by
    simp only [escL, Bool.and_eq_true] at he
    exact ⟨x, y, e, esc_RV1 h he.1 h1, esc_RV1l h he.2 h2⟩
theorem esc_RV {I : Option Bool → Nat → Option (Array Value)} (h : ∀ b c, E.im (some true) b = some c → I (some true) b = some c) {v : JV} {u : Value} (he : v.esc = true) (k : RV E H v u) : RV (E.wim I) H v u := by
  cases v
  case tup vs => obtain ⟨xs, e, k⟩ := k; exact ⟨xs, e, esc_RV1l h he k⟩
  all_goals exact esc_RV1 (H := H) (u := u) h he k
def JObj.esc : JObj → Bool
  | .box cs _ => escL cs
  | .row _ _ _ => true
theorem esc_Cont {I : Option Bool → Nat → Option (Array Value)} (h : ∀ b c, E.im (some true) b = some c → I (some true) b = some c) {o : JObj} {us : List Value} (he : o.esc = true) (k : Cont E H o us) : Cont (E.wim I) H o us := by
  cases o with
  | box cs rw => exact esc_RCs h cs us he k
  | row e l rw => exact ⟨k.1.monoT h, k.2⟩
/-! ### merged heaps -/
theorem merge_new (f : Nat → Option Nat) : ∀ (objs : List (Option JObj)) (nx : Nat) (H : Nat → Option JObj), (mergeJ f [] [] objs nx H).1 = nx + objs.length ∧
    (∀ k, k < objs.length → (mergeJ f [] [] objs nx H).2 (nx + k) = renO f (listAt objs k)) ∧ (∀ i, i < nx ∨ nx + objs.length ≤ i → (mergeJ f [] [] objs nx H).2 i = H i)
  | [], nx, H => ⟨rfl, fun k h => by simp at h, fun _ _ => rfl⟩
  | o :: objs, nx, H => by
    obtain ⟨h1, h2, h3⟩ := merge_new f objs (nx + 1) (upd H nx (renO f o))
    refine ⟨?_, fun k hk => ?_, fun i hi => ?_⟩
    · show (mergeJ f [] [] objs (nx + 1) _).1 = _
      rw [h1]; simp; omega
    · show (mergeJ f [] [] objs (nx + 1) _).2 _ = _
      cases k with
      | zero => rw [h3 _ (.inl (by omega))]; exact upd_same _ _ _
      | succ k =>
        have := h2 k (by simpa using hk)
        rw [show nx + (k + 1) = nx + 1 + k from by omega, this]; simp [listAt]
    · show (mergeJ f [] [] objs (nx + 1) _).2 _ = _
      simp only [List.length_cons] at hi
      rw [h3 i (by omega)]; exact upd_ne _ _ (by omega)
theorem merge_ok (f : Nat → Option Nat) : ∀ (ps : List OP) (is : List Nat) (objs : List (Option JObj)) (nx : Nat) (H : Nat → Option JObj), is.length = ps.length → ps.length ≤ objs.length → is.Nodup → (∀ i ∈ is, i < nx) →
    (mergeJ f ps is objs nx H).1 = nx + (objs.length - ps.length) ∧
    (∀ j id p, is[j]? = some id → ps[j]? = some p → (mergeJ f ps is objs nx H).2 id = cond p.rw (renO f (listAt objs j)) (H id)) ∧
    (∀ k, k < objs.length - ps.length → (mergeJ f ps is objs nx H).2 (nx + k) = renO f (listAt objs (ps.length + k))) ∧
    (∀ i, i ∉ is → i < nx ∨ nx + (objs.length - ps.length) ≤ i → (mergeJ f ps is objs nx H).2 i = H i)
  | [], [], objs, nx, H, _, _, _, _ => by
    obtain ⟨h1, h2, h3⟩ := merge_new f objs nx H
    exact ⟨by simpa using h1, fun j id p h => by simp at h, fun k hk => by simpa using h2 k (by simpa using hk), fun i _ hi => h3 i (by simpa using hi)⟩
  | [], _ :: _, objs, nx, H, h, _, _, _ => by simp at h
  | _ :: _, [], objs, nx, H, h, _, _, _ => by simp at h
  | p :: ps, i :: is, [], nx, H, _, h, _, _ => by simp at h
  | p :: ps, i :: is, o :: objs, nx, H, hl, hle, hnd, hlt => by
    obtain ⟨hni, hnd⟩ := List.nodup_cons.1 hnd
    obtain ⟨h1, h2, h3, h4⟩ := merge_ok f ps is objs nx (cond p.rw (upd H i (renO f o)) H) (by simpa using hl) (by simpa using hle) hnd (fun k hk => hlt k (by simp [hk]))
    have hi := hlt i (by simp)
    refine ⟨?_, fun j id q hj hq => ?_, fun k hk => ?_, fun k hk hk' => ?_⟩
    · show (mergeJ f ps is objs nx _).1 = _
      rw [h1]; simp
    · show (mergeJ f ps is objs nx _).2 _ = _
      cases j with
      | zero =>
        simp only [List.getElem?_cons_zero, Option.some.injEq] at hj hq
        subst hj hq
        rw [h4 i hni (.inl hi)]
        cases p.rw with
        | true => exact upd_same _ _ _
        | false => rfl
      | succ j =>
        simp only [List.getElem?_cons_succ] at hj hq
        rw [h2 j id q hj hq]
        have : id ≠ i := fun e => hni (by subst e; exact List.mem_of_getElem? hj)
        cases q.rw with
        | true => simp [listAt]
        | false =>
          cases p.rw with
          | true => exact upd_ne _ _ this
          | false => rfl
    · show (mergeJ f ps is objs nx _).2 _ = _
      simp only [List.length_cons] at hk
      rw [h3 k (by omega), List.length_cons, show ps.length + 1 + k = (ps.length + k) + 1 from by omega]; simp [listAt]
    · show (mergeJ f ps is objs nx _).2 _ = _
      simp only [List.mem_cons, not_or, List.length_cons] at hk hk'
      rw [h4 k hk.2 (by omega)]
      cases p.rw with
      | true => exact upd_ne _ _ hk.1
      | false => rfl
end Go.Eng

/- Calls by what is known of a function: the two states. No condition. -/
namespace Go.Eng
variable {R : Type} {P : Program} {S : Sc} {w0 w : World} {E : En} {st : St} {a : Act} {r : R} {H : Nat → Option JObj} {nx : Nat}
theorem mk_obj : ∀ {os : List OP} {y : OPL.T os} {i : Nat} {o : JObj}, listAt (OPL.mk os y) i = some o → ∃ p, os[i]? = some p ∧ p ≠ .gone ∧ o.rw = p.rw ∧ (p.esc = true → o.esc = true)
  | [], _, i, o, h => by simp [OPL.mk, listAt] at h
  | p :: os, y, i + 1, o, h => by
    have : listAt (OPL.mk os y.2) i = some o := by simpa [OPL.mk, listAt] using h
    obtain ⟨q, h1⟩ := mk_obj this
    exact ⟨q, by simpa using h1⟩
  | p :: os, y, 0, o, h => by
    have h : p.mk y.1 = some o := by simpa [OPL.mk, listAt] using h
    cases p with
    | gone => cases h
    | box ps rw => cases h; exact ⟨_, rfl, by simp, rfl, mkL_esc ps _⟩
    | row e rw => cases h; exact ⟨_, rfl, by simp, rfl, fun _ => rfl⟩
theorem altOK_at : ∀ {os qs : List OP}, altOK os qs = true → os.length ≤ qs.length ∧ ∀ (j : Nat) (q : OP), qs[j]? = some q → q.esc = true ∧ (q ≠ .gone → (∀ p : OP, os[j]? = some p → q.rw = p.rw) ∧ (os[j]? = none → q.rw = true))
  | [], [], _ => ⟨Nat.le_refl _, fun j q h => by simp at h⟩
  | _ :: _, [], h => by cases h
  | [], q :: qs, h => by
    simp only [altOK, Bool.and_eq_true] at h
    obtain ⟨_, h2⟩ := altOK_at (os := []) (qs := qs) h.2
    refine ⟨Nat.zero_le _, fun j q' hj => ?_⟩
    cases j with
    | succ j => simpa using h2 j q' (by simpa using hj)
    | zero =>
      simp only [List.getElem?_cons_zero, Option.some.injEq] at hj; subst hj
      refine ⟨h.1.2, fun hg => ⟨fun p hp => by simp at hp, fun _ => ?_⟩⟩
      have := h.1.1
      cases q <;> first | exact this | exact (hg rfl).elim
  | p :: os, q :: qs, h => by
    simp only [altOK, Bool.and_eq_true] at h
    obtain ⟨h1, h2⟩ := altOK_at (os := os) (qs := qs) h.2
    refine ⟨by simpa using h1, fun j q' hj => ?_⟩
    cases j with
    | succ j => simpa using h2 j q' (by simpa using hj)
    | zero =>
      simp only [List.getElem?_cons_zero, Option.some.injEq] at hj; subst hj
      refine ⟨h.1.2, fun hg => ⟨fun p' hp => ?_, fun hn => by simp at hn⟩⟩
      simp only [List.getElem?_cons_zero, Option.some.injEq] at hp; subst hp
      have := h.1.1
      cases q <;> first | exact eqB_iff this | exact (hg rfl).elim
theorem altsOK_at {os : List OP} : ∀ {l : List Alt} {q : Alt}, altsOK os l = true → q ∈ l → q.1.esc = true ∧ altOK os q.2 = true
  | [], q, _, h => by simp at h
  | a :: l, q, h, hq => by
    simp only [altsOK, Bool.and_eq_true] at h
    rcases List.mem_cons.1 hq with rfl | hq
    · exact h.1
    · exact altsOK_at h.2 hq
theorem rwIds_mem : ∀ {os : List OP} {order : List Nat} {j : Nat} {p : OP} {id : Nat}, os[j]? = some p → order[j]? = some id → p.rw = true → id ∈ rwIds os order
  | [], _, j, p, id, h, _, _ => by simp at h
  | _ :: _, [], j, p, id, _, h, _ => by simp at h
  | q :: os, i :: order, 0, p, id, h1, h2, h3 => by
    simp only [List.getElem?_cons_zero, Option.some.injEq] at h1 h2; subst h1 h2
    simp [rwIds, h3]
  | q :: os, i :: order, j + 1, p, id, h1, h2, h3 => by
    have := rwIds_mem (os := os) (order := order) (by simpa using h1) (by simpa using h2) h3
    unfold rwIds
    cases q.rw <;> simp [this]
theorem disj_at : ∀ {l m : List Nat}, disjB l m = true → ∀ i ∈ l, i ∉ m
  | [], _, _, i, h => by simp at h
  | j :: l, m, h, i, hi => by
    simp only [disjB, Bool.and_eq_true, Bool.not_eq_true'] at h
    rcases List.mem_cons.1 hi with rfl | hi
    · intro hm; rw [memB_iff.2 hm] at h; cases h.1
    · exact disj_at h.2 i hi
theorem reach_live : ∀ (n : Nat) (l acc : List Nat), ∀ i ∈ reach H n l acc, i ∈ acc ∨ H i ≠ none
  | 0, l, acc, i, h => .inl (by cases l <;> simpa [reach] using h)
  | n + 1, [], acc, i, h => .inl (by simpa [reach] using h)
  | n + 1, j :: r, acc, i, h => by
    unfold reach at h
    cases hm : memB j acc with
    | true => rw [hm] at h; exact reach_live n r acc i h
    | false =>
      rw [hm] at h; simp only [cond_false] at h
      split at h
      · rename_i o ho
        rcases reach_live n _ _ i h with h | h
        · rcases List.mem_append.1 h with h | h
          · exact .inl h
          · simp only [List.mem_singleton] at h; subst h; right; rw [ho]; simp
        · exact .inr h
      · exact reach_live n r acc i h
theorem order_live {vs : List JV} : ∀ i ∈ orderJ H 0 vs, H i ≠ none := fun i h => by
  rcases reach_live _ _ _ i h with h | h
  · simp at h
  · exact h
theorem RepH.heapAt (h : RepH S w0 E H nx w) {id : Nat} {o : JObj} (ho : H id = some o) (hr : o.rw = true) (hp : 0 < (E.φ id).room) : ∃ c t fz, w.heap[(E.φ id).blk]? = some (.cells c t fz) := by
  obtain ⟨us, _, hb⟩ := ObjOK_iff.1 (h.obj id o ho)
  rcases hb with ⟨_, h0⟩ | hb
  · omega
  · unfold Blk at hb; rw [if_pos hr] at hb
    obtain ⟨c, t, lo, hi, hg, _⟩ := hb
    exact ⟨c, t, _, hg⟩
/-! ### the callee's view -/
def ownC (E2 : En) (order : List Nat) (objs : List (Option JObj)) (b : Nat) : Prop :=
  ∃ i o, listAt objs i = some o ∧ o.rw = true ∧ 0 < (E2.φ (order.getD i 0)).room ∧ (E2.φ (order.getD i 0)).blk = b
def viewS (E2 : En) (I : Option Bool → Nat → Option (Array Value)) (order : List Nat) (m : Nat) (objs : List (Option JObj)) : Sc := ⟨ownC E2 order objs, m, fun i => E2.φ (order.getD i 0), fun e => I (some e), fun i => shp (listAt objs i)⟩
theorem im_ex (w : World) (im : Option Bool → Nat → Option (Array Value)) (own : Nat → Prop) : ∃ I : Option Bool → Nat → Option (Array Value), (∀ b, I (some true) b = im (some true) b) ∧ (∀ e, e ≠ some true → ∀ b c, I e b = some c ↔ ¬ own b ∧ ∃ t fz, w.heap[b]? = some (.cells c t fz)) := by
  classical
  refine ⟨fun e b => if e = some true then im (some true) b else if own b then none else match w.heap[b]? with
    | some (.cells c _ _) => some c
    | _ => none, fun b => by simp, fun e he b c => ?_⟩
  simp only [if_neg he]
  by_cases hb : own b
  · simp [hb]
  · simp only [hb, if_false, not_false_eq_true, true_and]
    split
    · rename_i c' t fz h
      rw [h]
      constructor
      · intro e; cases e; exact ⟨_, _, rfl⟩
      · rintro ⟨_, _, e⟩; cases e; rfl
    · rename_i hne
      constructor
      · intro e; cases e
      · rintro ⟨t, fz, e⟩; exact (hne _ _ _ e).elim
section
variable {E2 : En} {H2 : Nat → Option JObj} {nx2 : Nat} {order : List Nat} {os : List OP} {y : OPL.T os} {I : Option Bool → Nat → Option (Array Value)}
theorem own_at (F : Formed S w0 w E2 H2 order os y) {b : Nat} (h : ownC E2 order (OPL.mk os y) b) : ∃ (i : Nat) (p : OP) (id : Nat) (o : JObj), os[i]? = some p ∧ p.rw = true ∧ order[i]? = some id ∧ H2 id = some o ∧ o.rw = true ∧ 0 < (E2.φ id).room ∧ (E2.φ id).blk = b := by
  obtain ⟨i, o', h1, h2, h3, h4⟩ := h
  obtain ⟨p, id, o, us, q1, q2, q3, q4, q5, _⟩ := F.obj i o' h1
  rw [getD_of q2] at h3 h4
  exact ⟨i, p, id, o, q1, by rw [← q4]; exact h2, q2, q3, q5 (by rw [← q4]; exact h2), h3, h4⟩
theorem not_own (h : RepH S w0 E2 H2 nx2 w) (F : Formed S w0 w E2 H2 order os y) {id : Nat} {o : JObj} (ho : H2 id = some o) (hr : o.rw = true) (hp : 0 < (E2.φ id).room) (hn : ∀ (i : Nat) (p : OP), os[i]? = some p → order[i]? = some id → p.rw = false) :
    ¬ ownC E2 order (OPL.mk os y) (E2.φ id).blk := fun hc => by
  obtain ⟨i, p, id', o', h1, h2, h3, h4, h5, h6, h7⟩ := own_at F hc
  have := h.apart id' id o' o h4 ho h5 hr h6 hp h7
  subst this
  rw [hn i p h1 h3] at h2; cases h2
theorem view_rep (h : RepH S w0 E2 H2 nx2 w) (F : Formed S w0 w E2 H2 order os y) (hI1 : ∀ b, I (some true) b = E2.im (some true) b) (hI2 : ∀ e, e ≠ some true → ∀ b c, I e b = some c ↔ ¬ ownC E2 order (OPL.mk os y) b ∧ ∃ t fz, w.heap[b]? = some (.cells c t fz)) :
    More E2 I ∧ RepH (viewS E2 I order os.length (OPL.mk os y)) w ((E2.at order).wim I) (listAt (OPL.mk os y)) os.length w := by
  have hmore : More E2 I := by
    intro esc b c hb
    by_cases he : esc = some true
    · subst he; rw [hI1]; exact hb
    · refine (hI2 esc he b c).2 ⟨fun ho => ?_, h.imOK _ _ _ hb⟩
      obtain ⟨i, p, id, o, h1, h2, h3, h4, h5, h6, h7⟩ := own_at F ho
      have := (h.own id o h4 h5 h6).2 esc
      rw [h7, hb] at this; cases this
  have hphi : ∀ {i id : Nat}, order[i]? = some id → ((E2.at order).wim I).φ i = E2.φ id := fun hi => by show E2.φ (order.getD _ 0) = _; rw [getD_of hi]
  refine ⟨hmore, ⟨rfl, rfl, rfl, Nat.le_refl _, fun _ _ _ => rfl⟩, ?_, ?_, ?_, ?_, ?_, ?_, ?_, by show order.length = _; exact F.len, Nat.le_refl _, fun i hi => rfl, fun e b _ => rfl, fun i _ => .inr rfl⟩
  · intro i o' hi
    obtain ⟨p, id, o, us, q1, q2, q3, q4, q5, q8, q6, q7⟩ := F.obj i o' hi
    refine ObjOK_iff.2 ⟨us, ?_, ?_⟩
    · have := q6.ren (goes_im (E := { nx := order.length, φ := fun i => E2.φ (order.getD i 0), im := E2.im }) (H := listAt (OPL.mk os y)) hmore)
      rwa [JObj.ren_some] at this
    · rw [hphi q2]
      rcases q7 with q7 | q7
      · exact .inl q7
      · rcases Nat.eq_zero_or_pos (E2.φ id).room with h0 | h0
        · left
          refine ⟨?_, h0⟩
          have : us.length ≤ (E2.φ id).room := by
            unfold Blk at q7; split at q7
            · obtain ⟨_, _, _, _, _, _, _, h, _⟩ := q7; exact h
            · exact q7.1
          exact List.length_eq_zero_iff.1 (by omega)
        · right
          rw [q4]
          cases hp : p.rw with
          | true => rw [q5 hp] at q7; exact q7
          | false =>
            cases ho : o.rw with
            | false =>
              rw [ho] at q7
              obtain ⟨h1, c, h2, h3⟩ := q7
              exact ⟨h1, c, hmore _ _ _ h2, h3⟩
            | true =>
              have hno := not_own h F q3 ho h0 (fun j p' hj hj' => by
                have := nodup_inj F.nodup hj' q2; subst this
                rw [q1] at hj; cases hj; exact hp)
              rw [ho] at q7
              obtain ⟨c, t, lo, hi', h1, _, _, h2, h3⟩ := q7
              exact ⟨h2, c, (hI2 none (by simp) _ _).2 ⟨hno, _, _, h1⟩, h3⟩
  · intro i o' hi hr hp
    refine ⟨.inl ⟨i, o', hi, hr, hp, rfl⟩, fun esc => ?_⟩
    obtain ⟨p, id, o, us, q1, q2, q3, q4, q5, q8, q6, q7⟩ := F.obj i o' hi
    by_cases he : esc = some true
    · subst he
      show I (some true) _ = none
      rw [hI1, hphi q2]
      rw [hphi q2] at hp
      exact (h.own id o q3 (q5 (by rw [← q4]; exact hr)) hp).2 _
    · show I esc _ = none
      cases hc : I esc (((E2.at order).wim I).φ i).blk with
      | none => rfl
      | some c => exact (((hI2 _ he _ _).1 hc).1 ⟨i, o', hi, hr, hp, rfl⟩).elim
  · intro i j x z hx hz hrx hrz hpx hpz he
    obtain ⟨p, id, o, us, q1, q2, q3, q4, q5, q8, q6, q7⟩ := F.obj i x hx
    obtain ⟨p', id', o', us', s1, s2, s3, s4, s5, s8, s6, s7⟩ := F.obj j z hz
    rw [hphi q2] at hpx he; rw [hphi s2] at hpz he
    have := h.apart id id' o o' q3 s3 (q5 (by rw [← q4]; exact hrx)) (s5 (by rw [← s4]; exact hrz)) hpx hpz he
    subst this
    exact nodup_inj F.nodup q2 s2
  · intro esc b c hc
    by_cases he : esc = some true
    · subst he; exact h.imOK _ b c (by rw [← hI1]; exact hc)
    · exact ((hI2 _ he _ _).1 hc).2
  · intro esc b c hc
    have hno : ¬ ownC E2 order (OPL.mk os y) b := by
      by_cases he : esc = some true
      · subst he
        intro ho
        obtain ⟨i, p, id, o, h1, h2, h3, h4, h5, h6, h7⟩ := own_at F ho
        have := (h.own id o h4 h5 h6).2 (some true)
        rw [h7] at this
        have hc' : E2.im (some true) b = some c := by rw [← hI1]; exact hc
        rw [this] at hc'; cases hc'
      · exact ((hI2 _ he _ _).1 hc).1
    rcases Nat.lt_or_ge b w.heap.size with h1 | h1
    · exact .inl ⟨h1, hno⟩
    · exact .inr h1
  · intro b c hc
    exact hmore (some false) b c (h.imSub b c (by rw [← hI1]; exact hc))
  · intro i hi
    cases hl : listAt (OPL.mk os y) i with
    | none => rfl
    | some o =>
      have := listAt_lt hl
      rw [mk_len] at this
      omega
end
end Go.Eng

/- Calls by what is known of a function: the state behind a call. No condition. -/
namespace Go.Eng
variable {R : Type} {P : Program} {S : Sc} {w0 w w' : World} {E : En} {st : St} {a : Act} {r : R} {H : Nat → Option JObj} {nx : Nat}
variable {E2 : En} {H2 : Nat → Option JObj} {nx2 : Nat} {order : List Nat} {os : List OP} {y : OPL.T os} {I : Option Bool → Nat → Option (Array Value)}
/-- The caller's relation behind a call. -/
theorem en_ex (w : World) (E2 E' : En) (nx2 m nx' : Nat) : ∃ E3 : En, E3.nx = nx' ∧ (∀ i, i < nx2 → E3.φ i = E2.φ i) ∧ (∀ i, nx2 ≤ i → E3.φ i = E'.φ (i - nx2 + m)) ∧ (∀ esc b, b < w.heap.size → E3.im esc b = E2.im esc b) ∧ (∀ esc b, w.heap.size ≤ b → E3.im esc b = E'.im esc b) :=
  ⟨⟨nx', fun i => if i < nx2 then E2.φ i else E'.φ (i - nx2 + m), fun esc b => if b < w.heap.size then E2.im esc b else E'.im esc b⟩, rfl, fun i hi => if_pos hi, fun i hi => if_neg (by omega), fun esc b hb => if_pos hb, fun esc b hb => if_neg (by omega)⟩
theorem shp_some {o : JObj} : shp (some o) ≠ .none := by cases o <;> simp [shp]
theorem shp_none {o : Option JObj} (h : shp o = .none) : o = none := by cases o with
  | none => rfl
  | some o => exact (shp_some h).elim
theorem back_lt {objs : List (Option JObj)} {m id i : Nat} (hm : id < m) (h : backJ order m nx2 objs id = some i) : order[id]? = some i ∧ ∃ o, listAt objs id = some o := by
  unfold backJ at h
  split at h
  · rename_i o ho
    have : Nat.blt id m = true := by rw [Nat.blt_eq]; exact hm
    rw [this] at h; exact ⟨h, o, ho⟩
  · cases h
theorem back_ge {objs : List (Option JObj)} {m id i : Nat} (hm : m ≤ id) (h : backJ order m nx2 objs id = some i) : i = nx2 + (id - m) ∧ ∃ o, listAt objs id = some o := by
  unfold backJ at h
  split at h
  · rename_i o ho
    have : Nat.blt id m = false := by
      cases hb : Nat.blt id m with
      | false => rfl
      | true => rw [Nat.blt_eq] at hb; omega
    rw [this] at h; cases h; exact ⟨rfl, o, ho⟩
  · cases h
theorem back_rep (h : RepH S w0 E2 H2 nx2 w) (F : Formed S w0 w E2 H2 order os y) (hlive : ∀ i ∈ order, H2 i ≠ none) {qs : List OP} {z : OPL.T qs} (hq : altOK os qs = true) (hI1 : ∀ b, I (some true) b = E2.im (some true) b) {E' : En}
    (h' : RepH (viewS E2 I order os.length (OPL.mk os y)) w E' (listAt (OPL.mk qs z)) qs.length w') :
    ∃ E3, RepH S w0 E3 (mergeJ (backJ order os.length nx2 (OPL.mk qs z)) os order (OPL.mk qs z) nx2 H2).2 (mergeJ (backJ order os.length nx2 (OPL.mk qs z)) os order (OPL.mk qs z) nx2 H2).1 w' ∧
      Goes some E2 H2 E3 (mergeJ (backJ order os.length nx2 (OPL.mk qs z)) os order (OPL.mk qs z) nx2 H2).2 ∧
      (∀ v u, v.esc = true → RV E' (listAt (OPL.mk qs z)) v u → RV E3 (mergeJ (backJ order os.length nx2 (OPL.mk qs z)) os order (OPL.mk qs z) nx2 H2).2 (v.ren (backJ order os.length nx2 (OPL.mk qs z))) u) := by
  obtain ⟨hle, hqs⟩ := altOK_at hq
  have hlt : ∀ i ∈ order, i < nx2 := fun i hi => by
    rcases Nat.lt_or_ge i nx2 with h1 | h1
    · exact h1
    · exact (hlive i hi (h.fresh i h1)).elim
  have hobjs : (OPL.mk qs z).length = qs.length := mk_len
  obtain ⟨m1, m2, m3, m4⟩ := merge_ok (backJ order os.length nx2 (OPL.mk qs z)) os order (OPL.mk qs z) nx2 H2 F.len (by rw [hobjs]; exact hle) F.nodup hlt
  rw [hobjs] at m1 m3 m4
  generalize hmm : mergeJ (backJ order os.length nx2 (OPL.mk qs z)) os order (OPL.mk qs z) nx2 H2 = mm at m1 m2 m3 m4 ⊢
  obtain ⟨nx3, H3⟩ := mm
  simp only at m1 m2 m3 m4 ⊢
  generalize hback : backJ order os.length nx2 (OPL.mk qs z) = back at *
  obtain ⟨E3, e1, e2, e3, e4, e5⟩ := en_ex w E2 E' nx2 os.length nx3
  have hdead : ∀ i, i ∉ order → nx3 ≤ i → H3 i = none := fun i hi hn => by rw [m4 i hi (.inr (by omega))]; exact h.fresh i (by omega)
  -- what the callee was given, at a place of its own
  have given : ∀ j id, order[j]? = some id → ∃ p, os[j]? = some p := fun j id hj => by
    have := lt_of_get? hj; rw [F.len] at this
    exact ⟨os[j], List.getElem?_eq_getElem this⟩
  have shp0 : ∀ j o, j < os.length → listAt (OPL.mk qs z) j = some o → ∃ o', listAt (OPL.mk os y) j = some o' ∧ shp (some o) = shp (some o') := fun j o hj ho => by
    rcases h'.shape j hj with h1 | h1
    · rw [ho] at h1; exact (shp_some h1).elim
    · rw [ho] at h1
      have h1 : shp (some o) = shp (listAt (OPL.mk os y) j) := h1
      cases hl : listAt (OPL.mk os y) j with
      | none => rw [hl] at h1; exact (shp_some h1).elim
      | some o' => rw [hl] at h1; exact ⟨o', rfl, h1⟩
  have pin' : ∀ j, j < os.length → E'.φ j = E2.φ (order.getD j 0) := fun j hj => h'.pin j hj
  -- the caller's places
  have G : Goes some E2 H2 E3 H3 := by
    refine ⟨fun id i hn e => ?_, fun esc b c hc => ?_⟩
    · cases e
      rw [h.nx_] at hn
      refine ⟨by rw [e1]; omega, e2 _ hn, ?_⟩
      by_cases hid : id ∈ order
      · obtain ⟨j, hj⟩ := List.getElem?_of_mem hid
        obtain ⟨p, hp⟩ := given j id hj
        rw [m2 j id p hj hp]
        cases hr : p.rw with
        | false => exact .inr rfl
        | true =>
          cases ho : listAt (OPL.mk qs z) j with
          | none => exact .inl rfl
          | some o =>
            right
            have hjl := lt_of_get? hp
            obtain ⟨o', g1, g2⟩ := shp0 j o hjl ho
            obtain ⟨p', id', o2, us, q1, q2, q3, q4, q5, q8, _⟩ := F.obj j o' g1
            rw [hj] at q2; cases q2
            show shp (some (o.ren back)) = _
            rw [shp_ren, g2, q8, q3]
      · rw [m4 id hid (.inl hn)]; exact .inr rfl
    · obtain ⟨t, fz, hh⟩ := h.imOK _ _ _ hc
      rw [e4 _ _ (lt_of_get hh)]; exact hc
  -- the callee's places
  have Gb : Goes back (E'.wim E3.im) (listAt (OPL.mk qs z)) E3 H3 := by
    refine ⟨fun id i hn hi => ?_, fun _ _ _ hc => hc⟩
    rcases Nat.lt_or_ge id os.length with hid | hid
    · rw [← hback] at hi
      obtain ⟨hj, o, ho⟩ := back_lt hid hi
      have hmem := List.mem_of_getElem? hj
      have hi2 := hlt i hmem
      refine ⟨by rw [e1]; omega, ?_, ?_⟩
      · rw [e2 i hi2]
        show _ = E'.φ id
        rw [pin' id hid, getD_of hj]
      · right
        obtain ⟨o', g1, g2⟩ := shp0 id o hid ho
        obtain ⟨p', id', o2, us, q1, q2, q3, q4, q5, q8, _⟩ := F.obj id o' g1
        rw [hj] at q2; cases q2
        rw [m2 id i p' hj q1, ho]
        cases p'.rw with
        | true => exact shp_ren _ _
        | false => show shp (H2 i) = _; rw [q3, g2, q8]
    · rw [← hback] at hi
      obtain ⟨rfl, o, ho⟩ := back_ge hid hi
      have hlq := listAt_lt ho
      rw [hobjs] at hlq
      refine ⟨by rw [e1]; omega, ?_, ?_⟩
      · rw [e3 _ (by omega), show nx2 + (id - os.length) - nx2 + os.length = id from by omega]; rfl
      · right
        rw [m3 _ (by omega), show os.length + (id - os.length) = id from by omega, ho]
        exact shp_ren _ _
  have hT : ∀ b c, E'.im (some true) b = some c → E3.im (some true) b = some c := fun b c hc => by
    rcases Nat.lt_or_ge b w.heap.size with hb | hb
    · have := h'.im0 true b hb
      rw [e4 _ _ hb]
      have h2 : E'.im (some true) b = E2.im (some true) b := this.trans (hI1 b)
      rw [← h2]; exact hc
    · rw [e5 _ _ hb]; exact hc
  -- a caller's object that was not handed on to be written
  have heapKeep : ∀ id o, H2 id = some o → o.rw = true → 0 < (E2.φ id).room → (∀ (i : Nat) (p : OP), os[i]? = some p → order[i]? = some id → p.rw = false) → w'.heap[(E2.φ id).blk]? = w.heap[(E2.φ id).blk]? := fun id o ho hr hp hn => by
    obtain ⟨c, t, fz, hg⟩ := h.heapAt ho hr hp
    exact h'.keeps.block _ (lt_of_get hg) (not_own h F ho hr hp hn)
  -- every object behind the call: the caller's or the callee's
  have cases3 : ∀ i o, H3 i = some o → (i < nx2 ∧ H2 i = some o ∧ ∀ (j : Nat) (p : OP), os[j]? = some p → order[j]? = some i → p.rw = false) ∨
      ∃ j o', listAt (OPL.mk qs z) j = some o' ∧ o = o'.ren back ∧ E3.φ i = E'.φ j ∧ back j = some i ∧ (o.rw = true) ∧ (i < nx2 → ∃ o2, H2 i = some o2 ∧ o2.rw = true ∧ E3.φ i = E2.φ i) := fun i o hi => by
    rcases Nat.lt_or_ge i nx2 with hlt2 | hge
    · by_cases hmem : i ∈ order
      · obtain ⟨j, hj⟩ := List.getElem?_of_mem hmem
        obtain ⟨p, hp⟩ := given j i hj
        have hjl := lt_of_get? hp
        rw [m2 j i p hj hp] at hi
        cases hr : p.rw with
        | false =>
          rw [hr] at hi
          refine .inl ⟨hlt2, hi, fun j' p' hj' ho' => ?_⟩
          have := nodup_inj F.nodup ho' hj; subst this
          rw [hp] at hj'; cases hj'; exact hr
        | true =>
          rw [hr] at hi
          right
          cases ho : listAt (OPL.mk qs z) j with
          | none => rw [ho] at hi; cases hi
          | some o' =>
            rw [ho] at hi
            have hi : some (o'.ren back) = some o := hi
            cases hi
            obtain ⟨q, k1, k2, k3, k4⟩ := mk_obj ho
            obtain ⟨o1, g1, g2⟩ := shp0 j o' hjl ho
            obtain ⟨p', id', o2, us, q1, q2, q3, q4, q5, q8, _⟩ := F.obj j o1 g1
            rw [hj] at q2; cases q2
            rw [hp] at q1; cases q1
            refine ⟨j, o', ho, rfl, ?_, ?_, ?_, fun _ => ⟨o2, q3, q5 hr, e2 i hlt2⟩⟩
            · rw [e2 i hlt2, pin' j hjl, getD_of hj]
            · rw [← hback]; unfold backJ; rw [ho]
              have : Nat.blt j os.length = true := by rw [Nat.blt_eq]; exact hjl
              rw [this]; exact hj
            · rw [rw_ren, k3, ((hqs j q k1).2 k2).1 p hp, hr]
      · rw [m4 i hmem (.inl hlt2)] at hi
        exact .inl ⟨hlt2, hi, fun j p _ hj => (hmem (List.mem_of_getElem? hj)).elim⟩
    · have hno : i ∉ order := fun hm => by have := hlt i hm; omega
      rcases Nat.lt_or_ge i nx3 with hlt3 | hge3
      · right
        have hk := m3 (i - nx2) (by omega)
        rw [show nx2 + (i - nx2) = i from by omega, hi] at hk
        cases ho : listAt (OPL.mk qs z) (os.length + (i - nx2)) with
        | none => rw [ho] at hk; cases hk
        | some o' =>
          rw [ho] at hk
          have hk : some o = some (o'.ren back) := hk
          cases hk
          obtain ⟨q, k1, k2, k3, k4⟩ := mk_obj ho
          refine ⟨_, o', ho, rfl, ?_, ?_, ?_, fun hl => by omega⟩
          · rw [e3 i hge, Nat.add_comm]
          · rw [← hback]; unfold backJ; rw [ho]
            have : Nat.blt (os.length + (i - nx2)) os.length = false := by
              cases hb : Nat.blt (os.length + (i - nx2)) os.length with
              | false => rfl
              | true => rw [Nat.blt_eq] at hb; omega
            rw [this]; simp only [cond_false]
            rw [show os.length + (i - nx2) - os.length = i - nx2 from by omega, show nx2 + (i - nx2) = i from by omega]
          · rw [rw_ren, k3]
            exact ((hqs _ q k1).2 k2).2 (by rw [List.getElem?_eq_none]; omega)
      · rw [hdead i hno hge3] at hi; cases hi
  have calleeBlk : ∀ j o', listAt (OPL.mk qs z) j = some o' → o'.rw = true → 0 < (E'.φ j).room → ownC E2 order (OPL.mk os y) (E'.φ j).blk ∨ w.heap.size ≤ (E'.φ j).blk := fun j o' hj hr hp => (h'.own j o' hj hr hp).1
  refine ⟨E3, ⟨?_, ?_, ?_, ?_, ?_, ?_, ?_, ?_, e1, ?_, ?_, ?_, ?_⟩, G, fun v u hv k => ?_⟩
  · -- keeps
    refine h.keeps.same h'.keeps.os h'.keeps.tape h'.keeps.output h'.keeps.size fun k hk hn => h'.keeps.block k (Nat.lt_of_lt_of_le hk h.keeps.size) fun ho => ?_
    obtain ⟨i, p, id, o, h1, h2, h3, h4, h5, h6, h7⟩ := own_at F ho
    rcases (h.own id o h4 h5 h6).1 with h8 | h8
    · rw [h7] at h8; exact hn h8
    · rw [h7] at h8; omega
  · -- obj
    intro i o hi
    rcases cases3 i o hi with ⟨g1, g2, g3⟩ | ⟨j, o', g1, rfl, g3, g4, g5, g6⟩
    · have := (h.obj i o g2).go (w' := w') G (i := i) (e2 i g1) (fun hr hp => heapKeep i o g2 hr hp g3)
      rwa [JObj.ren_some] at this
    · obtain ⟨us, k1, k2⟩ := ObjOK_iff.1 (h'.obj j o' g1)
      obtain ⟨q, l1, l2, l3, l4⟩ := mk_obj g1
      have k3 := esc_Cont hT (l4 (hqs j q l1).1) k1
      refine ObjOK_iff.2 ⟨us, k3.ren Gb, ?_⟩
      rw [g3, rw_ren]
      rw [rw_ren] at g5
      rw [g5] at k2 ⊢
      exact k2
  · -- own
    intro i o hi hr hp
    rcases cases3 i o hi with ⟨g1, g2, g3⟩ | ⟨j, o', g1, rfl, g3, g4, g5, g6⟩
    · rw [e2 i g1] at hp ⊢
      refine ⟨(h.own i o g2 hr hp).1, fun esc => ?_⟩
      obtain ⟨c, t, fz, hg⟩ := h.heapAt g2 hr hp
      rw [e4 _ _ (lt_of_get hg)]
      exact (h.own i o g2 hr hp).2 esc
    · rw [rw_ren] at g5
      rw [g3] at hp ⊢
      rcases calleeBlk j o' g1 g5 hp with h1 | h1
      · obtain ⟨i', p, id, o2, s1, s2, s3, s4, s5, s6, s7⟩ := own_at F h1
        obtain ⟨t1, t2⟩ := h.own id o2 s4 s5 s6
        rw [s7] at t1 t2
        refine ⟨t1, fun esc => ?_⟩
        obtain ⟨c, t, fz, hg⟩ := h.heapAt s4 s5 s6
        rw [s7] at hg
        rw [e4 _ _ (lt_of_get hg)]; exact t2 esc
      · refine ⟨.inr (Nat.le_trans h.keeps.size h1), fun esc => ?_⟩
        rw [e5 _ _ h1]; exact (h'.own j o' g1 g5 hp).2 esc
  · -- apart
    have mixed : ∀ i o, i < nx2 → H2 i = some o → (∀ (j : Nat) (p : OP), os[j]? = some p → order[j]? = some i → p.rw = false) → o.rw = true → 0 < (E2.φ i).room → ∀ j o', listAt (OPL.mk qs z) j = some o' → o'.rw = true → 0 < (E'.φ j).room → (E2.φ i).blk ≠ (E'.φ j).blk := fun i o hi ho hn hr hp j o' hj hr' hp' he => by
      rcases calleeBlk j o' hj hr' hp' with h1 | h1
      · rw [← he] at h1; exact not_own h F ho hr hp hn h1
      · obtain ⟨c, t, fz, hg⟩ := h.heapAt ho hr hp
        have := lt_of_get hg
        rw [he] at this; omega
    intro i j x x' hx hx' hr hr' hp hp' he
    rcases cases3 i x hx with ⟨g1, g2, g3⟩ | ⟨k, o', g1, rfl, g3, g4, g5, g6⟩ <;> rcases cases3 j x' hx' with ⟨s1, s2, s3⟩ | ⟨k', o'', s1, rfl, s3, s4, s5, s6⟩
    · rw [e2 i g1] at hp he; rw [e2 j s1] at hp' he
      exact h.apart i j x x' g2 s2 hr hr' hp hp' he
    · rw [e2 i g1] at hp he; rw [s3] at hp' he; rw [rw_ren] at hr'
      exact (mixed i x g1 g2 g3 hr hp k' o'' s1 hr' hp' he).elim
    · rw [e2 j s1] at hp' he; rw [g3] at hp he; rw [rw_ren] at hr
      exact (mixed j x' s1 s2 s3 hr' hp' k o' g1 hr hp he.symm).elim
    · rw [g3] at hp he; rw [s3] at hp' he; rw [rw_ren] at hr hr'
      have := h'.apart k k' o' o'' g1 s1 hr hr' hp hp' he
      subst this
      rw [g4] at s4; cases s4; rfl
  · -- imOK
    intro esc b c hc
    rcases Nat.lt_or_ge b w.heap.size with hb | hb
    · rw [e4 _ _ hb] at hc
      obtain ⟨t, fz, hg⟩ := h.imOK _ _ _ hc
      refine ⟨t, fz, ?_⟩
      rw [h'.keeps.block b hb fun ho => ?_]; · exact hg
      obtain ⟨i, p, id, o, h1, h2, h3, h4, h5, h6, h7⟩ := own_at F ho
      have := (h.own id o h4 h5 h6).2 esc
      rw [h7, hc] at this; cases this
    · rw [e5 _ _ hb] at hc; exact h'.imOK _ _ _ hc
  · -- imS
    intro esc b c hc
    rcases Nat.lt_or_ge b w.heap.size with hb | hb
    · rw [e4 _ _ hb] at hc; exact h.imS _ _ _ hc
    · exact .inr (Nat.le_trans h.keeps.size hb)
  · -- imSub
    intro b c hc
    rcases Nat.lt_or_ge b w.heap.size with hb | hb
    · rw [e4 _ _ hb] at hc ⊢; exact h.imSub _ _ hc
    · rw [e5 _ _ hb] at hc ⊢; exact h'.imSub _ _ hc
  · intro i hi
    exact hdead i (fun hm => by have := hlt i hm; omega) hi
  · have := h.mle; omega
  · intro i hi
    have := h.mle
    rw [e2 i (by omega)]; exact h.pin i hi
  · intro e b hb
    rw [e4 _ _ (Nat.lt_of_lt_of_le hb h.keeps.size)]; exact h.im0 e b hb
  · exact h.shape_go G
  · exact RV_ren Gb (esc_RV hT hv k)
/-- A call by what is known of the function. -/
theorem callSg_ok {f : FuncId} {pin : VPL} {os : List OP} {alts : List Alt} {F : pin.T → OPL.T os → Option (AT alts)} (hf : FnOK P f pin os alts F) (ha : altsOK os alts = true) {args : List JV} {K : JV → St → Option R} {margs : List Value}
    (hK : callSg pin os alts F args st K = some r) (h : Rep S w0 E st a w) (hargs : RVL E st.H args margs) :
    ∃ fn, P.funcs[f]? = some fn ∧ fn.body.isSome = true ∧ fn.name ≠ "runtime.NumGoroutine" ∧ Calls P f margs.toArray w fun e w' => ∃ v, e = .returned v ∧ Out K r S w0 st a v w' := by
  unfold callSg at hK
  simp only at hK
  split at hK
  · rename_i st2 order x y hcan
    cases hd : disjB (prepL st.H pin args).2 (rwIds os order) with
    | false => rw [hd] at hK; cases hK
    | true =>
      rw [hd] at hK; simp only [cond_true] at hK
      split at hK
      · rename_i z hz
        obtain ⟨E2, g1, g2, Fm, ⟨vs1, hord⟩, hv⟩ := canonJ_ok h.toRepH hcan
        obtain ⟨I, hI1, hI2⟩ := im_ex w E2.im (ownC E2 order (OPL.mk os y))
        obtain ⟨hmore, hview⟩ := view_rep g1.rep Fm hI1 hI2
        have hmoreE : More E I := fun esc b c hc => hmore esc b c (by rw [g1.im]; exact hc)
        have hfroz : ∀ id ∈ (prepL st.H pin args).2, Froz w E st.H I id := by
          intro id hid o us ho hne hb
          have hidlt : id < st.nx := by
            rcases Nat.lt_or_ge id st.nx with h1 | h1
            · exact h1
            · rw [h.fresh id h1] at ho; cases ho
          unfold Blk at hb
          cases hr : o.rw with
          | false =>
            rw [hr] at hb
            obtain ⟨_, c, h1, h2⟩ := hb
            obtain ⟨t, fz, hg⟩ := h.imOK _ _ _ h1
            refine ⟨c, (hI2 _ (by simp) _ _).2 ⟨fun hown => ?_, _, _, hg⟩, h2⟩
            obtain ⟨i, p, id', o', s1, s2, s3, s4, s5, s6, s7⟩ := own_at Fm hown
            have := (g1.rep.own id' o' s4 s5 s6).2 none
            rw [s7, g1.im, h1] at this; cases this
          | true =>
            rw [hr] at hb
            obtain ⟨c, t, lo, hi, h1, _, _, h2, h3⟩ := hb
            refine ⟨c, (hI2 _ (by simp) _ _).2 ⟨fun hown => ?_, _, _, h1⟩, h3⟩
            obtain ⟨i, p, id', o', s1, s2, s3, s4, s5, s6, s7⟩ := own_at Fm hown
            have hroom : 0 < (E.φ id).room := by
              have : 0 < us.length := List.length_pos_iff.2 hne
              omega
            have hphi := g1.phi id (by rw [h.nx_]; exact hidlt)
            have hne2 : st2.H id ≠ none := fun e => by rw [(g1.live id (by rw [h.nx_]; exact hidlt)).1 e] at ho; cases ho
            cases ho2 : st2.H id with
            | none => exact hne2 ho2
            | some o2 =>
              have hr2 : o2.rw = true := (g1.rwf id o o2 (by rw [h.nx_]; exact hidlt) ho ho2).trans hr
              have := g1.rep.apart id' id o' o2 s4 ho2 s5 hr2 s6 (by rw [hphi]; exact hroom) (by rw [s7, hphi])
              subst this
              exact disj_at hd _ hid (rwIds_mem s1 s3 s2)
        have hargs1 := prepL_RVL h.toRepH hmoreE pin args margs hfroz hargs
        have hsubI : ∀ b c, I (some true) b = some c → I (some false) b = some c := hview.imSub
        have hargs2 := hv I hsubI margs hargs1
        obtain ⟨fn, f1, f2, f3, f4⟩ := hf x y z hz _ w _ margs rfl hview hargs2
        refine ⟨fn, f1, f2, f3, f4.mono ?_⟩
        rintro e w' ⟨v, rfl, E', q, hq, hrv, hrep⟩
        obtain ⟨k1, k2⟩ := altsOK_at ha (altGet_mem hq)
        obtain ⟨E3, r1, r2, r3⟩ := back_rep g1.rep Fm (by rw [hord]; exact order_live) k2 hI1 hrep
        rw [altK_get hq] at hK
        refine ⟨v, rfl, E3, _, _, hK, rfl, r3 _ v (mk_esc _ _ k1) hrv, { r1 with env := fun i => ?_, defers := h.defers }⟩
        have := RV_ren r2 (g1.RV (h.env i))
        rwa [ren_some] at this
      · cases hK
  · cases hK
end Go.Eng

/- Calls do not look behind; tables of calls. No condition. -/
namespace Go.Eng
variable {R : Type} {P : Program}
theorem altK_on {X : JV → List (Option JObj) → Option R} {Y : JV → List (Option JObj) → Option PK} {K : JV → St → Option R} (h : ∀ v o, X v o = on (Y v o) K) : ∀ (l : List Alt) (z : AT l), altK X l z = on (altK Y l z) K
  | [], z => rfl
  | [a], z => h _ _
  | a :: b :: l, .inl x => h _ _
  | a :: b :: l, .inr y => altK_on h (b :: l) y
theorem callSg_nat {pin : VPL} {os : List OP} {alts : List Alt} {F : pin.T → OPL.T os → Option (AT alts)} {args : List JV} {st : St} {K : JV → St → Option R} : callSg pin os alts F args st K = on (callSg pin os alts F args st pk) K := by
  unfold callSg
  simp only []
  split
  · rw [on_cond]; congr 1
    split
    · refine altK_on (fun v o => ?_) _ _; rfl
    · rfl
  · rfl
/-- One function of a table. -/
structure Entry (P : Program) where
  f : FuncId
  pin : VPL
  os : List OP
  alts : List Alt
  F : pin.T → OPL.T os → Option (AT alts)
  ok : FnOK P f pin os alts F
  alt : altsOK os alts = true
/-- A table of calls. -/
def tableJ {R : Type} : List (Entry P) → CallJ R
  | [], _, _, _, _ => none
  | c :: r, f, args, st, K => cond (Nat.beq f c.f) (callSg c.pin c.os c.alts c.F args st K) (tableJ r f args st K)
theorem table_ok : ∀ (l : List (Entry P)), CallOK P (tableJ (R := R) l)
  | [] => fun f args st K r h => by cases h
  | c :: l => fun f args st K r h S w0 E a w margs hR hargs => by
    unfold tableJ at h
    cases hb : Nat.beq f c.f with
    | true =>
      rw [hb] at h
      have := Nat.eq_of_beq_eq_true hb
      subst this
      exact callSg_ok c.ok c.alt h hR hargs
    | false => rw [hb] at h; exact table_ok l f args st K r h S w0 E a w margs hR hargs
theorem table_nat : ∀ (l : List (Entry P)), CallNat (tableJ (R := R) l) (tableJ l)
  | [] => fun f args st K => rfl
  | c :: l => fun f args st K => by
    unfold tableJ; rw [on_cond, ← callSg_nat, ← table_nat l f args st K]
end Go.Eng

/- A law's call, from what its function comes to. No condition. -/
namespace Go.Eng
def imW (W : World) (b : Nat) : Option (Array Value) := match W.heap[b]? with
  | some (.cells c _ _) => some c
  | _ => none
/-- The view of a law: all that is there is read, nothing of it is written. -/
def E0 (W : World) : En := ⟨0, fun _ => ⟨0, 0, 0⟩, fun _ b => imW W b⟩
def S0 (W : World) : Sc := ⟨fun _ => False, 0, fun _ => ⟨0, 0, 0⟩, fun _ b => imW W b, fun _ => .none⟩
theorem imW_some {W : World} {b : Nat} {c : Array Value} (h : imW W b = some c) : ∃ t fz, W.heap[b]? = some (.cells c t fz) := by
  unfold imW at h
  split at h
  · rename_i c' t fz hb; cases h; exact ⟨t, fz, hb⟩
  · cases h
theorem imW_lt {W : World} {b : Nat} {c : Array Value} (h : imW W b = some c) : b < W.heap.size := by
  obtain ⟨t, fz, hb⟩ := imW_some h
  exact lt_of_get hb
theorem rep0 (W : World) (sz : W.heap.size ≤ W.heap.size) : RepH (S0 W) W (E0 W) (fun _ => none) 0 W where
  keeps := ⟨rfl, rfl, rfl, Nat.le_refl _, fun _ _ _ => rfl⟩
  obj := fun id o h => by cases h
  own := fun id o h => by cases h
  apart := fun i j a b h => by cases h
  imOK := fun esc b c h => imW_some h
  imS := fun esc b c h => .inl ⟨imW_lt h, fun x => x⟩
  imSub := fun b c h => h
  fresh := fun _ _ => rfl
  nx_ := rfl
  mle := Nat.le_refl _
  pin := fun i h => (Nat.not_lt_zero i h).elim
  im0 := fun e b _ => rfl
  shape := fun i h => (Nat.not_lt_zero i h).elim
theorem law_calls {P : Program} {f : FuncId} {pin : VPL} {F : pin.T → OPL.T [] → Option (AT [(.bool, [])])} (hok : FnOK P f pin [] [(.bool, [])] F) {x : pin.T} (hF : F x () = some (true, ())) {W : World} {args : List Value}
    (hargs : RVL (E0 W) (fun _ => none) (pin.mk x) args) : Calls P f args.toArray W fun e W' => e = .returned (.bool true) ∧ Go.RowKit.Below W.heap.size W W' := by
  have hl : ∀ l : List (Option JObj), l = [] → listAt l = fun _ => none := fun l h => by subst h; funext i; rfl
  obtain ⟨fn, _, _, _, h⟩ := hok x () _ hF (S0 W) W (E0 W) args rfl (rep0 W (Nat.le_refl _)) hargs
  refine h.mono fun e W' h => ?_
  obtain ⟨v, rfl, E', q, hq, hv, hR⟩ := h
  simp only [altGet] at hq
  cases hq
  have hv : RV E' _ (.bool true) v := hv
  have : v = .bool true := by simpa [RV, RV1, RC] using hv
  subst this
  exact ⟨rfl, hR.keeps.os, hR.keeps.tape, hR.keeps.output, hR.keeps.size, fun k hk => hR.keeps.block k hk (fun x => x)⟩
end Go.Eng

/- The arguments of a law, as the engine sees them. No condition. -/
namespace Go.Eng
variable {H : Type} {enc : TypeId × Value → H} {P : Program} {W : World} {sp : Nat → Bool} {held : Bool}
theorem mapM_at {α β : Type} {f : α → Option β} : ∀ {l : List α} {ys : List β}, l.mapM f = some ys → ys.length = l.length ∧ ∀ (i : Nat) (x : α), l[i]? = some x → ∃ y, ys[i]? = some y ∧ f x = some y
  | [], ys, h => by simp at h; subst h; simp
  | a :: l, ys, h => by
    rw [List.mapM_cons] at h
    cases ha : f a with
    | none => rw [ha] at h; simp at h
    | some b =>
      rw [ha] at h
      cases hl : l.mapM f with
      | none => rw [hl] at h; simp at h
      | some bs =>
        rw [hl] at h
        simp at h
        subst h
        obtain ⟨h1, h2⟩ := mapM_at hl
        refine ⟨by simp [h1], fun i x hx => ?_⟩
        cases i with
        | zero => simp at hx; subst hx; exact ⟨b, rfl, ha⟩
        | succ i => simpa using h2 i x (by simpa using hx)
/-! ### what is known of what is given -/
def okS : (s : SK) → s.T → Prop
  | .int k, n => inK k n
  | .bool, _ => True
  | .str, l => l.length ≤ reachBytes
  | .lst k, l => l.length ≤ reachBytes ∧ ∀ x ∈ l, inK k x
  | .arr k n, l => l.length = n ∧ ∀ x ∈ l, inK k x
def okR : (ss : List SK) → RT ss → Prop
  | [], _ => True
  | [s], x => okS s x
  | s :: t :: r, x => okS s x.1 ∧ okR (t :: r) x.2
def okE : (e : EK) → e.T → Prop
  | .one s, x => okS s x
  | .many ss, x => okR ss x
mutual
def okV : (p : VP) → p.T → Prop
  | .int k, n => inK k n
  | .str, l => l.length ≤ reachBytes
  | .lst _ e, l => l.length ≤ reachBytes ∧ ∀ x ∈ l, okE e x
  | .arr k n, l => l.length = n ∧ ∀ x ∈ l, inK k x
  | .agg ps, x => okVL ps x
  | _, _ => True
def okVL : (p : VPL) → p.T → Prop
  | .nil, _ => True
  | .cons p r, x => okV p x.1 ∧ okVL r x.2
end
/-! ### plain parts -/
def intsC (P : Program) : Nat → TypeId → Option (IntKind × Nat)
  | 0, _ => none
  | n + 1, t => match P.underlying t with
    | some (.int k) => some (k, 1)
    | some (.array m e) => match intsC P n e with
      | some (k, c) => cond (Nat.beq (P.cellsOf e) c && Nat.beq (P.cellsOf t) (m * c)) (some (k, m * c)) none
      | none => none
    | _ => none
def fieldsC (P : Program) (g : TypeId → Option (List SK)) : List Field → Nat → Option (List SK)
  | [], _ => some []
  | f :: fs, off => cond (Nat.beq f.offset off) (match g f.type with
    | some a => cond (Nat.beq (P.cellsOf f.type) (sksW a)) (match fieldsC P g fs (off + sksW a) with
      | some b => some (a ++ b)
      | none => none) none
    | none => none) none
def sksC (P : Program) : Nat → TypeId → Option (List SK)
  | 0, _ => none
  | n + 1, t => match P.underlying t with
    | some (.int k) => some [.int k]
    | some .bool => some [.bool]
    | some .string => some [.str]
    | some (.slice e) => match P.underlying e with
      | some (.int k) => cond (Nat.beq (P.cellsOf e) 1 && Nat.ble 1 (P.bytesOf e)) (some [.lst k]) none
      | _ => none
    | some (.array m e) => match intsC P 4 t with
      | some (k, c) => some [.arr k c]
      | none => none
    | some (.struct fs) => match fieldsC P (sksC P n) fs.toList 0 with
      | some ss => cond (Nat.beq (P.cellsOf t) (sksW ss)) (some ss) none
      | none => none
    | _ => none
theorem RTR_append {E : En} : ∀ {ss ss' : List SK} {x : RT ss} {y : RT ss'} {a b : List Value}, RTR E ss x a → RTR E ss' y b → okR ss x → okR ss' y → ∃ z : RT (ss ++ ss'), RTR E (ss ++ ss') z (a ++ b) ∧ okR (ss ++ ss') z
  | [], ss', x, y, a, b, h, h', o, o' => by simp only [RTR] at h; subst h; exact ⟨y, h', o'⟩
  | [s], [], x, y, a, b, h, h', o, o' => by simp only [RTR] at h'; subst h'; exact ⟨x, by show RTR E [s] x (a ++ []); rw [List.append_nil]; exact h, o⟩
  | [s], t :: r, x, y, a, b, h, h', o, o' => ⟨(x, y), ⟨a, b, rfl, h, h'⟩, o, o'⟩
  | s :: t :: r, ss', x, y, a, b, h, h', o, o' => by
    obtain ⟨a1, a2, rfl, h1, h2⟩ := h
    obtain ⟨z, hz, oz⟩ := RTR_append h2 h' o.2 o'
    exact ⟨(x.1, z), ⟨a1, a2 ++ b, by rw [List.append_assoc], h1, hz⟩, o.1, oz⟩
theorem wf_inK {k : IntKind} {n : Int} (h : (Lit.int k n).wf = true) : inK k n := by
  simp only [Lit.wf, Bool.and_eq_true, decide_eq_true_eq] at h; exact h
theorem open_ints : ∀ {n : Nat} {t : TypeId} {k : IntKind} {c : Nat} {fuel : Nat} {cs : List Value} {x : DataW H × List MemPlace}, intsC P n t = some (k, c) → DataW.trod enc P W 0 sp held fuel t cs = some x →
    ∃ l : List Int, cs = l.map (Value.int k) ∧ l.length = c ∧ ∀ y ∈ l, inK k y
  | 0, t, k, c, fuel, cs, x, hc, h => by cases hc
  | n + 1, t, k, c, 0, cs, x, hc, h => by cases h
  | n + 1, t, k, c, fuel + 1, cs, x, hc, h => by
    simp only [intsC] at hc
    split at hc
    · rename_i k' hu
      cases hc
      unfold DataW.trod at h
      rw [hu] at h
      match cs, h with
      | [.int k1 m], h =>
        simp only [] at h
        split at h
        · rename_i hk; obtain ⟨rfl, hw⟩ := hk
          exact ⟨[m], rfl, rfl, fun y hy => by simp at hy; subst hy; exact wf_inK hw⟩
        · cases h
    · rename_i m e hu
      split at hc
      · rename_i k' c' he
        cases hb : (Nat.beq (P.cellsOf e) c' && Nat.beq (P.cellsOf t) (m * c')) with
        | false => rw [hb] at hc; cases hc
        | true =>
          rw [hb] at hc; cases hc
          rw [Bool.and_eq_true] at hb
          have b1 := Nat.eq_of_beq_eq_true hb.1
          have b2 := Nat.eq_of_beq_eq_true hb.2
          unfold DataW.trod at h
          rw [hu] at h
          simp only [] at h
          split at h
          · rename_i hlen
            rw [b2] at hlen
            rw [b1] at h
            cases hm : ((List.range m).mapM fun i => DataW.trod enc P W 0 sp held fuel e ((cs.drop (i * c')).take c')) with
            | none => rw [hm] at h; cases h
            | some ys =>
              obtain ⟨_, h2⟩ := mapM_at hm
              have key : ∀ d i, i + d = m → ∃ l : List Int, cs.drop (i * c') = l.map (Value.int k) ∧ l.length = d * c' ∧ ∀ y ∈ l, inK k y := by
                intro d
                induction d with
                | zero =>
                  intro i hi
                  refine ⟨[], ?_, by simp, by simp⟩
                  rw [show i = m by omega, List.drop_eq_nil_of_le (by omega)]; rfl
                | succ d ih =>
                  intro i hi
                  obtain ⟨l2, q1, q2, q3⟩ := ih (i + 1) (by omega)
                  obtain ⟨y, _, hy⟩ := h2 i i (by rw [List.getElem?_range (by omega)])
                  obtain ⟨l1, p1, p2, p3⟩ := open_ints he hy
                  refine ⟨l1 ++ l2, ?_, ?_, fun y hy => ?_⟩
                  · rw [List.map_append, ← p1, ← q1, show (i + 1) * c' = i * c' + c' by rw [Nat.succ_mul], ← List.drop_drop, List.take_append_drop]
                  · rw [List.length_append, p2, q2, Nat.succ_mul, Nat.add_comm]
                  · rcases List.mem_append.1 hy with hy | hy
                    · exact p3 y hy
                    · exact q3 y hy
              obtain ⟨l, q1, q2, q3⟩ := key m 0 (by omega)
              rw [Nat.zero_mul, List.drop_zero] at q1
              exact ⟨l, q1, q2, q3⟩
          · cases h
      · cases hc
    · cases hc
theorem ints_list {k : IntKind} : ∀ {c : List Value} {n : Nat}, c.length = n → (∀ (i : Nat) (v : Value), c[i]? = some v → ∃ m, v = Value.int k m ∧ inK k m) → ∃ l : List Int, c = l.map (Value.int k) ∧ l.length = n ∧ ∀ y ∈ l, inK k y
  | [], n, hn, h => ⟨[], rfl, by simpa using hn, by simp⟩
  | v :: c, n, hn, h => by
    obtain ⟨m, rfl, hm⟩ := h 0 v rfl
    obtain ⟨l, rfl, h2, h3⟩ := ints_list (c := c) (n := c.length) rfl fun i v hv => h (i + 1) v (by simpa using hv)
    exact ⟨m :: l, rfl, by simp at hn ⊢; omega, fun y hy => by
      rcases List.mem_cons.1 hy with rfl | hy
      · exact hm
      · exact h3 y hy⟩
theorem add_block (a : Addr) (n : Nat) : (a.add n).block = a.block := by unfold Addr.add; split <;> rfl
theorem add_off (a : Addr) (n : Nat) : (a.add n).off = a.off + n := by
  unfold Addr.add; split
  · rename_i h; subst h; rfl
  · rfl
/-- The cells of a slice's elements. -/
theorem cells_row {a : Addr} {c : Nat} {us : List Value} (h : W.cells? 0 a c = some us) : us.length = c ∧ ∀ j, j < c → ∃ C t fz, W.heap[a.block]? = some (.cells C t fz) ∧ (j = 0 → a.spot = none) ∧ C[a.off + j]? = us[j]? ∧ (us[j]?).isSome := by
  unfold World.cells? at h
  rw [if_pos (Nat.zero_le _)] at h
  obtain ⟨h1, h2⟩ := mapM_at h
  rw [List.length_range] at h1
  refine ⟨h1, fun j hj => ?_⟩
  obtain ⟨y, hy, hc⟩ := h2 j j (by rw [List.getElem?_range hj])
  unfold World.cell? at hc
  split at hc
  · rename_i C t fz hb
    split at hc
    · cases hc
    · rename_i hs
      rw [add_block] at hb
      refine ⟨C, t, fz, hb, fun hj0 => ?_, ?_, by rw [hy]; rfl⟩
      · have : (a.add j).spot = a.spot := by subst hj0; rfl
        rw [this] at hs
        cases ha : a.spot with
        | none => rfl
        | some s => rw [ha] at hs; simp at hs
      · rw [hy, ← hc, add_off]
  · cases hc
/-- The elements of a slice, each as it is read. -/
theorem open_row {a : Addr} {w len : Nat} {C : Array Value} {t : TypeId} {fz : Nat × Nat} {e : EK} (hw : 1 ≤ w) (hew : e.w = w) (hb : W.heap[a.block]? = some (.cells C t fz))
    (hel : ∀ i, i < len → ∃ us, W.cells? 0 (a.add (i * w)) w = some us ∧ ∃ x : e.T, EKR (E0 W) e x us ∧ okE e x) : ∀ d i, i + d = len → ∃ l : List e.T, l.length = d ∧ (∀ x ∈ l, okE e x) ∧ EKL (E0 W) e l ((C.toList.drop (a.off + i * w)).take (d * w))
  | 0, i, hi => ⟨[], rfl, by simp, by simp [EKL]⟩
  | d + 1, i, hi => by
    obtain ⟨us, h1, x, h2, ox⟩ := hel i (by omega)
    obtain ⟨h3, h4⟩ := cells_row h1
    obtain ⟨l, q1, q0, q2⟩ := open_row hw hew hb hel d (i + 1) (by omega)
    have hus : (C.toList.drop (a.off + i * w)).take w = us := by
      apply List.ext_getElem?
      intro j
      rw [List.getElem?_take, List.getElem?_drop]
      by_cases hj : j < w
      · rw [if_pos hj]
        obtain ⟨C', t', fz', g1, _, g2, _⟩ := h4 j hj
        rw [add_block, hb] at g1; cases g1
        rw [← g2, Array.getElem?_toList, add_off]
      · rw [if_neg hj, List.getElem?_eq_none (by omega)]
    refine ⟨x :: l, by simp [q1], fun y hy => by rcases List.mem_cons.1 hy with rfl | hy; exact ox; exact q0 y hy, us, _, ?_, h2, q2⟩
    rw [show (d + 1) * w = w + d * w by rw [Nat.succ_mul, Nat.add_comm], List.take_add, hus, List.drop_drop, show a.off + (i + 1) * w = a.off + i * w + w by rw [Nat.succ_mul]; omega]
theorem open_lst {t e : TypeId} {fuel : Nat} {cs : List Value} {x : DataW H × List MemPlace} {ek : EK} {w : Nat} (hu : P.underlying t = some (.slice e)) (hw : 1 ≤ w) (hew : ek.w = w) (hc : P.cellsOf e = w) (hby : 1 ≤ P.bytesOf e)
    (hel : ∀ fuel us (y : DataW H × List MemPlace), DataW.trod enc P W 0 sp held fuel e us = some y → us.length = w → (∀ n ∈ y.1.weights P e, n ≤ reachBytes) → ∃ x : ek.T, EKR (E0 W) ek x us ∧ okE ek x) (hz : ∀ n ∈ x.1.weights P t, n ≤ reachBytes) (h : DataW.trod enc P W 0 sp held fuel t cs = some x) :
    ∃ l : List ek.T, l.length ≤ ML ∧ (l.length ≤ reachBytes ∧ ∀ x ∈ l, okE ek x) ∧ ∃ base cap, cs = [.slice base l.length cap] ∧ l.length ≤ cap ∧ ∃ vs, EKL (E0 W) ek l vs ∧ (l = [] ∨ ∃ b o, base = some ⟨b, o, none⟩ ∧ ImAt (E0 W) true b o vs) := by
  cases fuel with
  | zero => cases h
  | succ fuel =>
    unfold DataW.trod at h
    rw [hu] at h
    match cs, h with
    | [.slice none 0 0], h => exact ⟨[], Nat.zero_le _, ⟨Nat.zero_le _, by simp⟩, none, 0, rfl, Nat.le_refl _, [], rfl, .inl rfl⟩
    | [.slice (some a) len cap], h =>
      simp only [] at h
      split at h
      · rename_i hcond
        obtain ⟨_, h1, h2⟩ := hcond
        cases hm : ((List.range len).mapM fun i => (W.cells? 0 (a.add (i * P.cellsOf e)) (P.cellsOf e)).bind (DataW.trod enc P W 0 sp held fuel e)) with
        | none => rw [hm] at h; cases h
        | some ys =>
          rw [hm] at h
          obtain ⟨hyl, h4⟩ := mapM_at hm
          rw [List.length_range] at hyl
          obtain ⟨rest, hx⟩ : ∃ rest, x.1 = .slice (ys.map (·.1)) rest := by
            simp only [Option.bind_some] at h
            split at h
            · cases hq : ((List.range (cap - len)).mapM fun j => (W.cells? 0 (a.add ((len + j) * P.cellsOf e)) (P.cellsOf e)).bind (DataW.trod enc P W 0 sp held fuel e)) with
              | none => rw [hq] at h; cases h
              | some r => rw [hq] at h; cases h; exact ⟨_, rfl⟩
            · cases h; exact ⟨_, rfl⟩
          rw [hx] at hz
          simp only [DataW.weights, hu] at hz
          have hlr : len ≤ reachBytes := by
            have h5 := hz _ (List.mem_cons_self ..)
            rw [List.length_map, hyl] at h5
            have h6 : (len + rest.length) * 1 ≤ (len + rest.length) * P.bytesOf e := Nat.mul_le_mul_left _ hby
            omega
          have hyw : ∀ (y : DataW H × List MemPlace), y ∈ ys → ∀ n ∈ y.1.weights P e, n ≤ reachBytes := by
            have : ∀ (l : List (DataW H × List MemPlace)), (∀ n ∈ DataW.weightsAll P e (l.map (·.1)), n ≤ reachBytes) → ∀ y, y ∈ l → ∀ n ∈ y.1.weights P e, n ≤ reachBytes := by
              intro l
              induction l with
              | nil => intro _ y hy; cases hy
              | cons z l ih =>
                intro hw y hy
                simp only [List.map_cons, DataW.weightsAll, List.mem_append] at hw
                rcases List.mem_cons.1 hy with rfl | hy
                · exact fun n hn => hw n (.inl hn)
                · exact ih (fun n hn => hw n (.inr hn)) y hy
            exact this ys fun n hn => hz n (List.mem_cons_of_mem _ (List.mem_append_left _ hn))
          have hML : len ≤ ML := by have : maxLen = ML := by decide
                                    omega
          rcases Nat.eq_zero_or_pos len with h0 | h0
          · subst h0; exact ⟨[], Nat.zero_le _, ⟨Nat.zero_le _, by simp⟩, some a, cap, rfl, Nat.zero_le _, [], rfl, .inl rfl⟩
          · have hel' : ∀ i, i < len → ∃ us, W.cells? 0 (a.add (i * w)) w = some us ∧ ∃ x : ek.T, EKR (E0 W) ek x us ∧ okE ek x := fun i hi => by
              obtain ⟨y, hyi, hy⟩ := h4 i i (by rw [List.getElem?_range hi])
              rw [hc] at hy
              cases hus : W.cells? 0 (a.add (i * w)) w with
              | none => rw [hus] at hy; cases hy
              | some us =>
                rw [hus] at hy
                obtain ⟨x, hx, ox⟩ := hel fuel us y hy (cells_row hus).1 (hyw y (List.mem_of_getElem? hyi))
                exact ⟨us, rfl, x, hx, ox⟩
            obtain ⟨us0, hus0, _⟩ := hel' 0 h0
            obtain ⟨C, ct, fz, hb, hs, _, _⟩ := (cells_row hus0).2 0 hw
            rw [add_block] at hb
            have hs : a.spot = none := by have := hs rfl; rw [Nat.zero_mul] at this; exact this
            obtain ⟨l, q1, q0, q2⟩ := open_row hw hew hb hel' len 0 (by omega)
            rw [Nat.zero_mul, Nat.add_zero] at q2
            refine ⟨l, by omega, ⟨by omega, q0⟩, some a, cap, by rw [q1], by omega, _, q2, .inr ⟨a.block, a.off, by cases a; simp_all, C, ?_, ?_⟩⟩
            · show imW W a.block = some C
              unfold imW; rw [hb]
            · rw [EKL_len q2, q1, hew]
      · cases h
theorem open_sks : ∀ {n : Nat} {t : TypeId} {ss : List SK} {fuel : Nat} {cs : List Value} {x : DataW H × List MemPlace}, sksC P n t = some ss → DataW.trod enc P W 0 sp held fuel t cs = some x → (∀ n ∈ x.1.weights P t, n ≤ reachBytes) → ∃ y : RT ss, RTR (E0 W) ss y cs ∧ okR ss y
  | 0, t, ss, fuel, cs, x, hc, h, hz => by cases hc
  | n + 1, t, ss, 0, cs, x, hc, h, hz => by cases h
  | n + 1, t, ss, fuel + 1, cs, x, hc, h, hz => by
    have hall := h
    simp only [sksC] at hc
    split at hc
    · rename_i k hu
      cases hc
      unfold DataW.trod at h
      rw [hu] at h
      match cs, h with
      | [.int k1 m], h =>
        simp only [] at h
        split at h
        · rename_i hk; obtain ⟨rfl, hw⟩ := hk
          exact ⟨m, ⟨rfl, wf_inK hw⟩, wf_inK hw⟩
        · cases h
    · rename_i hu
      cases hc
      unfold DataW.trod at h
      rw [hu] at h
      match cs, h with
      | [.bool b], h => exact ⟨b, rfl, trivial⟩
    · rename_i hu
      cases hc
      unfold DataW.trod at h
      rw [hu] at h
      match cs, h with
      | [.string s], h =>
        simp only [] at h
        split at h
        · rename_i hs
          have e1 : maxLen = ML := by decide
          have e : s.data.size = s.size := rfl
          cases h
          simp only [DataW.weights, List.mem_singleton, Array.length_toList] at hz
          have := hz _ rfl
          refine ⟨bytesOf s, ⟨s, rfl, rfl, ?_⟩, ?_⟩
          · simp only [bytesOf, List.length_map, Array.length_toList]; omega
          · show (bytesOf s).length ≤ _
            simp only [bytesOf, List.length_map, Array.length_toList]; exact this
        · cases h
    · rename_i e hu
      split at hc
      · rename_i k he
        cases hb : (Nat.beq (P.cellsOf e) 1 && Nat.ble 1 (P.bytesOf e)) with
        | false => rw [hb] at hc; cases hc
        | true =>
          rw [hb] at hc; cases hc
          rw [Bool.and_eq_true] at hb
          obtain ⟨l, h1, ho, base, cap, rfl, h2, vs, h3, h4⟩ := open_lst (ek := .one (.int k)) (w := 1) hu (Nat.le_refl _) rfl (Nat.eq_of_beq_eq_true hb.1) (Nat.le_of_ble_eq_true hb.2) (fun fuel us y hy _ _ => by
            cases fuel with
            | zero => cases hy
            | succ fuel =>
              unfold DataW.trod at hy
              rw [he] at hy
              match us, hy with
              | [.int k1 m], hy =>
                simp only [] at hy
                split at hy
                · rename_i hk; obtain ⟨rfl, hw⟩ := hk
                  exact ⟨m, ⟨rfl, wf_inK hw⟩, wf_inK hw⟩
                · cases hy) hz hall
          obtain ⟨rfl, h5⟩ := EKL_int.1 h3
          exact ⟨l, ⟨h5, h1, base, cap, rfl, h2, h4⟩, ho.1, h5⟩
      · cases hc
    · rename_i m e hu
      split at hc
      · rename_i k c hi
        cases hc
        obtain ⟨l, h1, h2, h3⟩ := open_ints hi hall
        exact ⟨l, ⟨h1, h2, h3⟩, h2, h3⟩
      · cases hc
    · rename_i fs hu
      split at hc
      · rename_i ss' hf
        cases hb : Nat.beq (P.cellsOf t) (sksW ss') with
        | false => rw [hb] at hc; cases hc
        | true =>
          rw [hb] at hc; cases hc
          have hb := Nat.eq_of_beq_eq_true hb
          unfold DataW.trod at h
          rw [hu] at h
          simp only [] at h
          split at h
          · rename_i hlen
            cases hm : (fs.toList.mapM fun f => DataW.trod enc P W 0 sp held fuel f.type ((cs.drop f.offset).take (P.cellsOf f.type))) with
            | none => rw [hm] at h; cases h
            | some ys =>
              rw [hm] at h
              simp only [Option.map_some, Option.some.injEq] at h
              subst h
              simp only [DataW.weights, hu] at hz
              have key : ∀ (fs : List Field) (ys : List (DataW H × List MemPlace)) (off : Nat) (ss : List SK), fieldsC P (sksC P n) fs off = some ss → (fs.mapM fun f => DataW.trod enc P W 0 sp held fuel f.type ((cs.drop f.offset).take (P.cellsOf f.type))) = some ys → 
                  cs.length = off + sksW ss → (∀ n ∈ DataW.weightsEach P (fs.map (·.type)) (ys.map (·.1)), n ≤ reachBytes) → ∃ y : RT ss, RTR (E0 W) ss y (cs.drop off) ∧ okR ss y := by
                intro fs
                induction fs with
                | nil =>
                  intro ys off ss hs _ hl _
                  simp only [fieldsC, Option.some.injEq] at hs
                  subst hs
                  refine ⟨(), ?_, trivial⟩
                  simp only [sksW] at hl
                  simp only [RTR]
                  exact List.drop_eq_nil_of_le (by omega)
                | cons f fs ih =>
                  intro ys off ss hs hm hl hz
                  simp only [fieldsC] at hs
                  cases ho : Nat.beq f.offset off with
                  | false => rw [ho] at hs; cases hs
                  | true =>
                    rw [ho] at hs
                    simp only [cond_true] at hs
                    have ho := Nat.eq_of_beq_eq_true ho
                    split at hs
                    · rename_i a ha
                      cases hcw : Nat.beq (P.cellsOf f.type) (sksW a) with
                      | false => rw [hcw] at hs; cases hs
                      | true =>
                        rw [hcw] at hs
                        simp only [cond_true] at hs
                        have hcw := Nat.eq_of_beq_eq_true hcw
                        split at hs
                        · rename_i b hb'
                          cases hs
                          rw [List.mapM_cons] at hm
                          cases hf1 : DataW.trod enc P W 0 sp held fuel f.type ((cs.drop f.offset).take (P.cellsOf f.type)) with
                          | none => rw [hf1] at hm; simp at hm
                          | some y1 =>
                            rw [hf1] at hm
                            cases hf2 : (fs.mapM fun f => DataW.trod enc P W 0 sp held fuel f.type ((cs.drop f.offset).take (P.cellsOf f.type))) with
                            | none => rw [hf2] at hm; simp at hm
                            | some ys2 =>
                              rw [hf2] at hm
                              have hm : some (y1 :: ys2) = some ys := hm
                              cases hm
                              simp only [List.map_cons, DataW.weightsEach, List.mem_append] at hz
                              obtain ⟨z1, r1, o1⟩ := open_sks (n := n) ha hf1 (fun n hn => hz n (.inl hn))
                              rw [sksW_append] at hl
                              obtain ⟨z2, r2, o2⟩ := ih ys2 (off + sksW a) b hb' hf2 (by omega) (fun n hn => hz n (.inr hn))
                              obtain ⟨z, r, o⟩ := RTR_append r1 r2 o1 o2
                              refine ⟨z, ?_, o⟩
                              rw [ho, hcw, ← List.drop_drop, List.take_append_drop] at r
                              exact r
                        · cases hs
                    · cases hs
              obtain ⟨y, hy, oy⟩ := key fs.toList ys 0 ss hf hm (by omega) hz
              rw [List.drop_zero] at hy
              exact ⟨y, hy, oy⟩
          · cases h
      · cases hc
    · cases hc
where
  sksW_append : ∀ {a b : List SK}, sksW (a ++ b) = sksW a + sksW b
    | [], b => by simp [sksW]
    | s :: a, b => by simp only [List.cons_append, sksW, sksW_append (a := a) (b := b)]; omega
end Go.Eng

/- A law's row, from what its function comes to in plain Lean. No condition. -/
namespace Go.Eng
open Go.RowKit Go.ChangeShapes Go.WideShapes
def vpS : SK → VP
  | .int k => .int k
  | .bool => .bool
  | .str => .str
  | .lst k => .lst true (.one (.int k))
  | .arr k n => .arr k n
def vplS : List SK → VPL
  | [] => .nil
  | s :: r => .cons (vpS s) (vplS r)
theorem vp_of {E : En} {H : Nat → Option JObj} {s : SK} {x : s.T} {us : List Value} (h : SKR E s x us) (o : okS s x) : ∃ y : (vpS s).T, RC E H ((vpS s).mk y) us ∧ okV (vpS s) y := by
  cases s with
  | int k => exact ⟨x, h, o⟩
  | bool => exact ⟨x, h, trivial⟩
  | str => exact ⟨x, h, o⟩
  | lst k =>
    obtain ⟨h1, h2, base, cap, rfl, h3, h4⟩ := h
    exact ⟨x, ⟨h2, base, cap, rfl, h3, _, EKL_int.2 ⟨rfl, h1⟩, h4⟩, o.1, fun y hy => o.2 y hy⟩
  | arr k n => exact ⟨x, h, o⟩
theorem vpl_of {E : En} {H : Nat → Option JObj} : ∀ {ss : List SK} {x : RT ss} {us : List Value}, RTR E ss x us → okR ss x → ∃ y : (vplS ss).T, RCs E H ((vplS ss).mk y) us ∧ okVL (vplS ss) y
  | [], x, us, h, o => by simp only [RTR] at h; subst h; exact ⟨(), rfl, trivial⟩
  | [s], x, us, h, o => by
    obtain ⟨y, h1, h2⟩ := vp_of (H := H) h o
    exact ⟨(y, ()), ⟨us, [], by simp, h1, rfl⟩, h2, trivial⟩
  | s :: t :: r, x, us, h, o => by
    obtain ⟨a, b, rfl, h1, h2⟩ := h
    obtain ⟨y, g1, g2⟩ := vp_of (H := H) h1 o.1
    obtain ⟨z, g3, g4⟩ := vpl_of (H := H) h2 o.2
    exact ⟨(y, z), ⟨a, b, rfl, g1, g3⟩, g2, g4⟩
def elemC (P : Program) (e : TypeId) : Option EK :=
  match P.underlying e with
  | some (.struct _) => match sksC P 8 e with
    | some ss => cond (Nat.beq (P.cellsOf e) (sksW ss) && Nat.ble 1 (sksW ss) && Nat.ble 1 (P.bytesOf e)) (some (.many ss)) none
    | none => none
  | _ => match sksC P 8 e with
    | some [s] => cond (Nat.beq (P.cellsOf e) s.w && Nat.ble 1 s.w && Nat.ble 1 (P.bytesOf e)) (some (.one s)) none
    | _ => none
def argC (P : Program) (t : TypeId) : Option VP :=
  match P.underlying t with
  | some (.struct _) => match sksC P 8 t with
    | some ss => some (.agg (vplS ss))
    | none => none
  | some (.array ..) => match intsC P 4 t with
    | some (k, c) => some (.arr k c)
    | none => none
  | some (.slice e) => match elemC P e with
    | some ek => some (.lst true ek)
    | none => none
  | some (.int k) => some (.int k)
  | some .bool => some .bool
  | some .string => some .str
  | _ => none
def argsC (P : Program) : List TypeId → Option VPL
  | [] => some .nil
  | t :: r => match argC P t, argsC P r with
    | some p, some q => some (.cons p q)
    | _, _ => none
section
variable {H : Type} {enc : TypeId × Value → H} {P : Program} {W W' : World} {sp : Nat → Bool} {held : Bool}
theorem elem_ok {e : TypeId} {ek : EK} (h : elemC P e = some ek) : 1 ≤ ek.w ∧ P.cellsOf e = ek.w ∧ 1 ≤ P.bytesOf e ∧ ∀ fuel us (y : DataW H × List MemPlace), DataW.trod enc P W 0 sp held fuel e us = some y → (∀ n ∈ y.1.weights P e, n ≤ reachBytes) → ∃ x : ek.T, EKR (E0 W) ek x us ∧ okE ek x := by
  unfold elemC at h
  split at h
  · split at h
    · rename_i ss hs
      cases hb : (Nat.beq (P.cellsOf e) (sksW ss) && Nat.ble 1 (sksW ss) && Nat.ble 1 (P.bytesOf e)) with
      | false => rw [hb] at h; cases h
      | true =>
        rw [hb] at h; cases h
        simp only [Bool.and_eq_true] at hb
        exact ⟨Nat.le_of_ble_eq_true hb.1.2, Nat.eq_of_beq_eq_true hb.1.1, Nat.le_of_ble_eq_true hb.2, fun fuel us y hy hz => open_sks hs hy hz⟩
    · cases h
  · split at h
    · rename_i s hs
      cases hb : (Nat.beq (P.cellsOf e) s.w && Nat.ble 1 s.w && Nat.ble 1 (P.bytesOf e)) with
      | false => rw [hb] at h; cases h
      | true =>
        rw [hb] at h; cases h
        simp only [Bool.and_eq_true] at hb
        exact ⟨Nat.le_of_ble_eq_true hb.1.2, Nat.eq_of_beq_eq_true hb.1.1, Nat.le_of_ble_eq_true hb.2, fun fuel us y hy hz => open_sks hs hy hz⟩
    · cases h
theorem open_arg {t : TypeId} {v : Value} {d : DataW H} {ps : List MemPlace} {p : VP} {r : Reach} {b0 : Nat} (hp : argC P t = some p) (hval : Value.okWide P W r b0 t v) (hd : DataW.Trod enc P W 0 sp held t v d ps) (hz : ∀ n ∈ d.weights P t, n ≤ reachBytes) :
    ∃ x : p.T, RV (E0 W) (fun _ => none) (p.mk x) v ∧ okV p x := by
  obtain ⟨fuel, hf⟩ := hd
  unfold argC at hp
  unfold Value.okWide at hval
  split at hp
  · rename_i fs hu
    rw [hu] at hval
    obtain ⟨cs, rfl, _, _⟩ := hval
    split at hp
    · rename_i ss hs
      cases hp
      obtain ⟨y, h1, h2⟩ := open_sks hs hf hz
      obtain ⟨z, g1, g2⟩ := vpl_of (H := fun _ => none) h1 h2
      exact ⟨z, ⟨cs, rfl, g1⟩, g2⟩
    · cases hp
  · rename_i m e hu
    rw [hu] at hval
    obtain ⟨cs, rfl, _, _⟩ := hval
    split at hp
    · rename_i k c hi
      cases hp
      obtain ⟨l, h1, h2, h3⟩ := open_ints hi hf
      exact ⟨l, ⟨cs, rfl, h1, h2, h3⟩, h2, h3⟩
    · cases hp
  · rename_i e hu
    rw [hu] at hval
    split at hp
    · rename_i ek he
      cases hp
      have hone : v.cells.toList = [v] := by
        cases v with
        | agg cs => simp only [Cell.okWide, Cell.ok, hu] at hval
        | _ => rfl
      rw [hone] at hf
      obtain ⟨e1, e2, e3, e4⟩ := elem_ok (H := H) (enc := enc) (W := W) (sp := sp) (held := held) he
      obtain ⟨l, h1, h2, base, cap, h3, h4, vs, h5, h6⟩ := open_lst (ek := ek) hu e1 rfl e2 e3 (fun fuel us y hy _ hz => e4 fuel us y hy hz) hz hf
      simp only [List.cons.injEq, and_true] at h3
      subst h3
      exact ⟨l, ⟨h1, base, cap, rfl, h4, vs, h5, h6⟩, h2⟩
    · cases hp
  · rename_i k hu
    cases hp
    rw [hu] at hval
    have hone : v.cells.toList = [v] := by
      cases v with
      | agg cs => simp only [Cell.okWide, Cell.ok, hu] at hval
      | _ => rfl
    rw [hone] at hf
    obtain ⟨y, h1, h2⟩ := open_sks (n := 1) (ss := [.int k]) (by simp only [sksC, hu]) hf hz
    obtain ⟨h3, h4⟩ := h1
    simp only [List.cons.injEq, and_true] at h3
    subst h3
    exact ⟨y, ⟨rfl, h4⟩, h2⟩
  · rename_i hu
    cases hp
    rw [hu] at hval
    have hone : v.cells.toList = [v] := by
      cases v with
      | agg cs => simp only [Cell.okWide, Cell.ok, hu] at hval
      | _ => rfl
    rw [hone] at hf
    obtain ⟨y, h1, h2⟩ := open_sks (n := 1) (ss := [.bool]) (by simp only [sksC, hu]) hf hz
    have h3 : [v] = [.bool y] := h1
    simp only [List.cons.injEq, and_true] at h3
    subst h3
    exact ⟨y, rfl, trivial⟩
  · rename_i hu
    cases hp
    rw [hu] at hval
    have hone : v.cells.toList = [v] := by
      cases v with
      | agg cs => simp only [Cell.okWide, Cell.ok, hu] at hval
      | _ => rfl
    rw [hone] at hf
    obtain ⟨y, h1, h2⟩ := open_sks (n := 1) (ss := [.str]) (by simp only [sksC, hu]) hf hz
    obtain ⟨s, h3, h4, h5⟩ := h1
    simp only [List.cons.injEq, and_true] at h3
    subst h3
    exact ⟨y, ⟨s, rfl, h4, h5⟩, h2⟩
  · cases hp
theorem open_args {r : Reach} {b0 : Nat} : ∀ {ts : List TypeId} {vs : List Value} {ds : List (DataW H)} {ps : List MemPlace} {pin : VPL}, argsC P ts = some pin → (∀ (j : Nat) t v, ts[j]? = some t → vs[j]? = some v → Value.okWide P W r b0 t v) →
    DataW.TrodAll enc P W 0 sp held ts vs ds ps → (∀ n ∈ DataW.weightsEach P ts ds, n ≤ reachBytes) → ∃ x : pin.T, RVL (E0 W) (fun _ => none) (pin.mk x) vs ∧ okVL pin x
  | [], vs, ds, ps, pin, hp, hv, h, hz => by
    cases hp
    obtain ⟨rfl, rfl, rfl⟩ := trodAll_nil h
    exact ⟨(), rfl, trivial⟩
  | t :: ts, vs, ds, ps, pin, hp, hv, h, hz => by
    simp only [argsC] at hp
    split at hp
    · rename_i p q hp1 hq
      cases hp
      obtain ⟨v, vs', d, ds', p', q', rfl, rfl, rfl, h1, h2⟩ := trodAll_cons h
      simp only [DataW.weightsEach, List.mem_append] at hz
      obtain ⟨x, g1, g2⟩ := open_arg hp1 (hv 0 t v rfl rfl) h1 (fun n hn => hz n (.inl hn))
      obtain ⟨y, g3, g4⟩ := open_args hq (fun j t v ht hv' => hv (j + 1) t v (by simpa using ht) (by simpa using hv')) h2 (fun n hn => hz n (.inr hn))
      exact ⟨(x, y), ⟨v, vs', rfl, g1, g3⟩, g2, g4⟩
    · cases hp
theorem trodAll_below (hl : laidOutB P = true) (hb : Below W.heap.size W W') : ∀ {ts : List TypeId} {vs : List Value} {ds : List (DataW H)} {ps : List MemPlace}, (∀ t ∈ ts, P.readableRec t = true ∧ t < P.types.size) →
    DataW.TrodAll enc P W 0 (fun _ => true) true ts vs ds ps → (∀ x ∈ ps, x.block < W.heap.size) → DataW.TrodAll enc P W' 0 (fun b => decide (b < W.heap.size)) true ts vs ds ps
  | [], vs, ds, ps, hr, h, hlt => by
    obtain ⟨rfl, rfl, rfl⟩ := trodAll_nil h
    exact trodAll_mk0
  | t :: ts, vs, ds, ps, hr, h, hlt => by
    obtain ⟨v, vs', d, ds', p', q', rfl, rfl, rfl, h1, h2⟩ := trodAll_cons h
    obtain ⟨r1, r2⟩ := hr t (List.mem_cons_self ..)
    exact ⟨p', q', Below.trod hl r1 r2 h1 hb (fun x hx => hlt x (List.mem_append_left _ hx)), trodAll_below hl hb (fun t ht => hr t (List.mem_cons_of_mem _ ht)) h2 (fun x hx => hlt x (List.mem_append_right _ hx)), rfl⟩
end
/-- A law's row. -/
theorem law_lifted {C : Checked} {f : FuncId} {fn : Func} {s : ChangeSpec} {conds : List PathCond} {pin : VPL} {F : Nat → pin.T → OPL.T [] → Option (AT [(.bool, [])])} {tb : TypeId}
    (own : ownKnob C.prog.godebug = none) (noInit : C.prog.inits.idxOf? f = none) (hfn : C.prog.funcs[f]? = some fn) (hk : ∀ k, FnOK C.prog f pin [] [(.bool, [])] (F k)) (hargs : argsC C.prog fn.params.toList = some pin)
    (hvars : s.vars = []) (hres : fn.resultTypes = #[tb]) (htb : C.prog.underlying tb = some .bool) (hspec : ∀ (H : Type) (ds : List (DataW H)), ds.length = fn.params.toList.length → s.fn H ds = { results := [.lit (.bool true)], args := ds })
    (hl : laidOutB C.prog = true) (hrd : fn.params.toList.all (fun t => C.prog.readableRec t && Nat.blt t C.prog.types.size) = true) (plain : ∀ x, okVL pin x → ∃ k, F k x () = some (true, ()))
    (os : Os) (started : os.Started) (H : Type) (enc : TypeId × Value → H)
    (witness : ∃ (w : World) (tape : Tape) (i : Input), w.os = os ∧ (w.forCall tape i).Shaped C.prog ∧ i.vars = [] ∧ Input.okWide C.prog (w.forCall tape i) .any w.heap.size f i ∧
      s.pre6 enc C.prog fn conds false (w.forCall tape i).memory i.args ∧ Assume.holds {} C.prog (lone (Frame.enter C.prog f i.args .normal) [] (w.forCall tape i))) :
    ReturnsInHanded {} C os f .any (s.pre6 enc C.prog fn conds false) (s.post enc C.prog fn false true false false) := by
  refine returnsInHanded_of_change_sized own started noInit hfn witness ?_
  intro W base args ds gs before hval hW hcnd hsz _
  have hW' := hW
  obtain ⟨p, q, hA, hV, rfl, hfz, hnd⟩ := hW
  rw [hvars] at hV
  obtain ⟨rfl, rfl⟩ := trodVars_none hV
  have hlen := (trodAll_length hA).2
  obtain ⟨x, hx, ox⟩ := open_args (P := C.prog) (W := W) hargs (fun j t v ht hv => hval j t v (by rw [← Array.getElem?_toList]; exact ht) (by rw [← Array.getElem?_toList]; exact hv)) hA (fun n hn => by
    have := List.all_eq_true.1 hsz n (by
      have e : s.plain.varTypes C.prog = [] := by simp [DataSpec.varTypes, ChangeSpec.plain, hvars]
      rw [e, List.append_nil, List.append_nil]; exact hn)
    simpa using this)
  obtain ⟨k, hk'⟩ := plain x ox
  have hcall := law_calls (hk k) hk' hx
  rw [Array.toArray_toList] at hcall
  refine hcall.mono fun e W' ⟨he, bel⟩ => ?_
  subst he
  refine ⟨_, rfl, ds, [], _, [], p, [], hW', ?_, ?_, ?_, bel.frame _, fun h => by cases h⟩
  · rw [hres, List.append_nil, hspec H ds (by omega)]; exact trodAll_mk1 (shut_bool htb _)
  · rw [List.append_nil, hspec H ds (by omega)]
    exact trodAll_below hl bel (fun t ht => by
      have := List.all_eq_true.1 hrd t ht
      rw [Bool.and_eq_true, Nat.blt_eq] at this; exact this) hA (fun x hx => DataW.TrodAll.lt hA x hx)
  · rw [hvars, List.append_nil, hspec H ds (by omega)]; exact rfl
end Go.Eng

