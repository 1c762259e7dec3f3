/- The engine, part 4: a second reading of the code over values and lists, and that it is right. No condition. -/
import Derived.Test.YtinjfnjhhdjklaaE3
import Derived.ChangeOld
import Derived.ChangeCalls
import Derived.SizedLaws
import Derived.OpenShut
import Derived.ChangeShapes
import Derived.Test.YtinjfnjhhdjklaaE1
import Derived.RangeFuncRecord
import Derived.RangeFuncIn
import Derived.OrdersIn
import Derived.TacticsIn
set_option linter.unusedVariables false
set_option linter.unusedSimpArgs false
namespace Go.Eng
open Go.RowKit Go.ChangeShapes Go.WideShapes
def vpS : SK → VP
  | .int k => .int k
  | .bool => .bool
  | .str => .str
  | .lst k => .lst true (.one (.int k))
  | .arr k n => .arr k n
def vplS : List SK → VPL
  | [] => .nil
  | s :: r => .cons (vpS s) (vplS r)
theorem vp_of {E : En} {H : Nat → Option JObj} {s : SK} {x : s.T} {us : List Value} (h : SKR E s x us) (o : okS s x) : ∃ y : (vpS s).T, RC E H ((vpS s).mk y) us ∧ okV (vpS s) y := by
  cases s with
  | int k => exact ⟨x, h, o⟩
  | bool => exact ⟨x, h, trivial⟩
  | str => exact ⟨x, h, o⟩
  | lst k =>
    obtain ⟨h1, h2, base, cap, rfl, h3, h4⟩ := h
    exact ⟨x, ⟨h2, base, cap, rfl, h3, _, EKL_int.2 ⟨rfl, h1⟩, h4⟩, o.1, fun y hy => o.2 y hy⟩
  | arr k n => exact ⟨x, h, o⟩
theorem vpl_of {E : En} {H : Nat → Option JObj} : ∀ {ss : List SK} {x : RT ss} {us : List Value}, RTR E ss x us → okR ss x → ∃ y : (vplS ss).T, RCs E H ((vplS ss).mk y) us ∧ okVL (vplS ss) y
  | [], x, us, h, o => by simp only [RTR] at h; subst h; exact ⟨(), rfl, trivial⟩
  | [s], x, us, h, o => by
    obtain ⟨y, h1, h2⟩ := vp_of (H := H) h o
    exact ⟨(y, ()), ⟨us, [], by simp, h1, rfl⟩, h2, trivial⟩
  | s :: t :: r, x, us, h, o => by
    obtain ⟨a, b, rfl, h1, h2⟩ := h
    obtain ⟨y, g1, g2⟩ := vp_of (H := H) h1 o.1
    obtain ⟨z, g3, g4⟩ := vpl_of (H := H) h2 o.2
    exact ⟨(y, z), ⟨a, b, rfl, g1, g3⟩, g2, g4⟩
def elemC (P : Program) (e : TypeId) : Option EK :=
  match P.underlying e with
  | some (.struct _) => match sksC P 8 e with
    | some ss => cond (Nat.beq (P.cellsOf e) (sksW ss) && Nat.ble 1 (sksW ss) && Nat.ble 1 (P.bytesOf e)) (some (.many ss)) none
    | none => none
  | _ => match sksC P 8 e with
    | some [s] => cond (Nat.beq (P.cellsOf e) s.w && Nat.ble 1 s.w && Nat.ble 1 (P.bytesOf e)) (some (.one s)) none
    | _ => none
def argC (P : Program) (t : TypeId) : Option VP :=
  match P.underlying t with
  | some (.struct _) => match sksC P 8 t with
    | some ss => some (.agg (vplS ss))
    | none => none
  | some (.array ..) => match intsC P 4 t with
    | some (k, c) => some (.arr k c)
    | none => none
  | some (.slice e) => match elemC P e with
    | some ek => some (.lst true ek)
    | none => none
  | some (.int k) => some (.int k)
  | some .bool => some .bool
  | some .string => some .str
  | _ => none
def argsC (P : Program) : List TypeId → Option VPL
  | [] => some .nil
  | t :: r => match argC P t, argsC P r with
    | some p, some q => some (.cons p q)
    | _, _ => none
section
variable {H : Type} {enc : TypeId × Value → H} {P : Program} {W W' : World} {sp : Nat → Bool} {held : Bool}
theorem elem_ok {e : TypeId} {ek : EK} (h : elemC P e = some ek) : 1 ≤ ek.w ∧ P.cellsOf e = ek.w ∧ 1 ≤ P.bytesOf e ∧ ∀ fuel us (y : DataW H × List MemPlace), DataW.trod enc P W 0 sp held fuel e us = some y → (∀ n ∈ y.1.weights P e, n ≤ reachBytes) → ∃ x : ek.T, EKR (E0 W) ek x us ∧ okE ek x := by
  unfold elemC at h
  split at h
  · split at h
    · rename_i ss hs
      cases hb : (Nat.beq (P.cellsOf e) (sksW ss) && Nat.ble 1 (sksW ss) && Nat.ble 1 (P.bytesOf e)) with
      | false => rw [hb] at h; cases h
      | true =>
        rw [hb] at h; cases h
        simp only [Bool.and_eq_true] at hb
        exact ⟨Nat.le_of_ble_eq_true hb.1.2, Nat.eq_of_beq_eq_true hb.1.1, Nat.le_of_ble_eq_true hb.2, fun fuel us y hy hz => open_sks hs hy hz⟩
    · cases h
  · split at h
    · rename_i s hs
      cases hb : (Nat.beq (P.cellsOf e) s.w && Nat.ble 1 s.w && Nat.ble 1 (P.bytesOf e)) with
      | false => rw [hb] at h; cases h
      | true =>
        rw [hb] at h; cases h
        simp only [Bool.and_eq_true] at hb
        exact ⟨Nat.le_of_ble_eq_true hb.1.2, Nat.eq_of_beq_eq_true hb.1.1, Nat.le_of_ble_eq_true hb.2, fun fuel us y hy hz => open_sks hs hy hz⟩
    · cases h
theorem open_arg {t : TypeId} {v : Value} {d : DataW H} {ps : List MemPlace} {p : VP} {r : Reach} {b0 : Nat} (hp : argC P t = some p) (hval : Value.okWide P W r b0 t v) (hd : DataW.Trod enc P W 0 sp held t v d ps) (hz : ∀ n ∈ d.weights P t, n ≤ reachBytes) :
    ∃ x : p.T, RV (E0 W) (fun _ => none) (p.mk x) v ∧ okV p x := by
  obtain ⟨fuel, hf⟩ := hd
  unfold argC at hp
  unfold Value.okWide at hval
  split at hp
  · rename_i fs hu
    rw [hu] at hval
    obtain ⟨cs, rfl, _, _⟩ := hval
    split at hp
    · rename_i ss hs
      cases hp
      obtain ⟨y, h1, h2⟩ := open_sks hs hf hz
      obtain ⟨z, g1, g2⟩ := vpl_of (H := fun _ => none) h1 h2
      exact ⟨z, ⟨cs, rfl, g1⟩, g2⟩
    · cases hp
  · rename_i m e hu
    rw [hu] at hval
    obtain ⟨cs, rfl, _, _⟩ := hval
    split at hp
    · rename_i k c hi
      cases hp
      obtain ⟨l, h1, h2, h3⟩ := open_ints hi hf
      exact ⟨l, ⟨cs, rfl, h1, h2, h3⟩, h2, h3⟩
    · cases hp
  · rename_i e hu
    rw [hu] at hval
    split at hp
    · rename_i ek he
      cases hp
      have hone : v.cells.toList = [v] := by
        cases v with
        | agg cs => simp only [Cell.okWide, Cell.ok, hu] at hval
        | _ => rfl
      rw [hone] at hf
      obtain ⟨e1, e2, e3, e4⟩ := elem_ok (H := H) (enc := enc) (W := W) (sp := sp) (held := held) he
      obtain ⟨l, h1, h2, base, cap, h3, h4, vs, h5, h6⟩ := open_lst (ek := ek) hu e1 rfl e2 e3 (fun fuel us y hy _ hz => e4 fuel us y hy hz) hz hf
      simp only [List.cons.injEq, and_true] at h3
      subst h3
      exact ⟨l, ⟨h1, base, cap, rfl, h4, vs, h5, h6⟩, h2⟩
    · cases hp
  · rename_i k hu
    cases hp
    rw [hu] at hval
    have hone : v.cells.toList = [v] := by
      cases v with
      | agg cs => simp only [Cell.okWide, Cell.ok, hu] at hval
      | _ => rfl
    rw [hone] at hf
    obtain ⟨y, h1, h2⟩ := open_sks (n := 1) (ss := [.int k]) (by simp only [sksC, hu]) hf hz
    obtain ⟨h3, h4⟩ := h1
    simp only [List.cons.injEq, and_true] at h3
    subst h3
    exact ⟨y, ⟨rfl, h4⟩, h2⟩
  · rename_i hu
    cases hp
    rw [hu] at hval
    have hone : v.cells.toList = [v] := by
      cases v with
      | agg cs => simp only [Cell.okWide, Cell.ok, hu] at hval
      | _ => rfl
    rw [hone] at hf
    obtain ⟨y, h1, h2⟩ := open_sks (n := 1) (ss := [.bool]) (by simp only [sksC, hu]) hf hz
    have h3 : [v] = [.bool y] := h1
    simp only [List.cons.injEq, and_true] at h3
    subst h3
    exact ⟨y, rfl, trivial⟩
  · rename_i hu
    cases hp
    rw [hu] at hval
    have hone : v.cells.toList = [v] := by
      cases v with
      | agg cs => simp only [Cell.okWide, Cell.ok, hu] at hval
      | _ => rfl
    rw [hone] at hf
    obtain ⟨y, h1, h2⟩ := open_sks (n := 1) (ss := [.str]) (by simp only [sksC, hu]) hf hz
    obtain ⟨s, h3, h4, h5⟩ := h1
    simp only [List.cons.injEq, and_true] at h3
    subst h3
    exact ⟨y, ⟨s, rfl, h4, h5⟩, h2⟩
  · cases hp
theorem open_args {r : Reach} {b0 : Nat} : ∀ {ts : List TypeId} {vs : List Value} {ds : List (DataW H)} {ps : List MemPlace} {pin : VPL}, argsC P ts = some pin → (∀ (j : Nat) t v, ts[j]? = some t → vs[j]? = some v → Value.okWide P W r b0 t v) →
    DataW.TrodAll enc P W 0 sp held ts vs ds ps → (∀ n ∈ DataW.weightsEach P ts ds, n ≤ reachBytes) → ∃ x : pin.T, RVL (E0 W) (fun _ => none) (pin.mk x) vs ∧ okVL pin x
  | [], vs, ds, ps, pin, hp, hv, h, hz => by
    cases hp
    obtain ⟨rfl, rfl, rfl⟩ := trodAll_nil h
    exact ⟨(), rfl, trivial⟩
  | t :: ts, vs, ds, ps, pin, hp, hv, h, hz => by
    simp only [argsC] at hp
    split at hp
    · rename_i p q hp1 hq
      cases hp
      obtain ⟨v, vs', d, ds', p', q', rfl, rfl, rfl, h1, h2⟩ := trodAll_cons h
      simp only [DataW.weightsEach, List.mem_append] at hz
      obtain ⟨x, g1, g2⟩ := open_arg hp1 (hv 0 t v rfl rfl) h1 (fun n hn => hz n (.inl hn))
      obtain ⟨y, g3, g4⟩ := open_args hq (fun j t v ht hv' => hv (j + 1) t v (by simpa using ht) (by simpa using hv')) h2 (fun n hn => hz n (.inr hn))
      exact ⟨(x, y), ⟨v, vs', rfl, g1, g3⟩, g2, g4⟩
    · cases hp
theorem trodAll_below (hl : laidOutB P = true) (hb : Below W.heap.size W W') : ∀ {ts : List TypeId} {vs : List Value} {ds : List (DataW H)} {ps : List MemPlace}, (∀ t ∈ ts, P.readableRec t = true ∧ t < P.types.size) →
    DataW.TrodAll enc P W 0 (fun _ => true) true ts vs ds ps → (∀ x ∈ ps, x.block < W.heap.size) → DataW.TrodAll enc P W' 0 (fun b => decide (b < W.heap.size)) true ts vs ds ps
  | [], vs, ds, ps, hr, h, hlt => by
    obtain ⟨rfl, rfl, rfl⟩ := trodAll_nil h
    exact trodAll_mk0
  | t :: ts, vs, ds, ps, hr, h, hlt => by
    obtain ⟨v, vs', d, ds', p', q', rfl, rfl, rfl, h1, h2⟩ := trodAll_cons h
    obtain ⟨r1, r2⟩ := hr t (List.mem_cons_self ..)
    exact ⟨p', q', Below.trod hl r1 r2 h1 hb (fun x hx => hlt x (List.mem_append_left _ hx)), trodAll_below hl hb (fun t ht => hr t (List.mem_cons_of_mem _ ht)) h2 (fun x hx => hlt x (List.mem_append_right _ hx)), rfl⟩
end
theorem law_lifted {C : Checked} {f : FuncId} {fn : Func} {s : ChangeSpec} {conds : List PathCond} {pin : VPL} {F : Nat → pin.T → OPL.T [] → Option (AT [(.bool, [])])} {tb : TypeId}
    (own : ownKnob C.prog.godebug = none) (noInit : C.prog.inits.idxOf? f = none) (hfn : C.prog.funcs[f]? = some fn) (hk : ∀ k, FnOK C.prog f pin [] [(.bool, [])] (F k)) (hargs : argsC C.prog fn.params.toList = some pin)
    (hvars : s.vars = []) (hres : fn.resultTypes = #[tb]) (htb : C.prog.underlying tb = some .bool) (hspec : ∀ (H : Type) (ds : List (DataW H)), ds.length = fn.params.toList.length → s.fn H ds = { results := [.lit (.bool true)], args := ds })
    (hl : laidOutB C.prog = true) (hrd : fn.params.toList.all (fun t => C.prog.readableRec t && Nat.blt t C.prog.types.size) = true) (plain : ∀ x, okVL pin x → ∃ k, F k x () = some (true, ()))
    (os : Os) (started : os.Started) (H : Type) (enc : TypeId × Value → H)
    (witness : ∃ (w : World) (tape : Tape) (i : Input), w.os = os ∧ (w.forCall tape i).Shaped C.prog ∧ i.vars = [] ∧ Input.okWide C.prog (w.forCall tape i) .any w.heap.size f i ∧
      s.pre6 enc C.prog fn conds false (w.forCall tape i).memory i.args ∧ Assume.holds {} C.prog (lone (Frame.enter C.prog f i.args .normal) [] (w.forCall tape i))) :
    ReturnsInHanded {} C os f .any (s.pre6 enc C.prog fn conds false) (s.post enc C.prog fn false true false false) := by
  refine returnsInHanded_of_change_sized own started noInit hfn witness ?_
  intro W base args ds gs before hval hW hcnd hsz _
  have hW' := hW
  obtain ⟨p, q, hA, hV, rfl, hfz, hnd⟩ := hW
  rw [hvars] at hV
  obtain ⟨rfl, rfl⟩ := trodVars_none hV
  have hlen := (trodAll_length hA).2
  obtain ⟨x, hx, ox⟩ := open_args (P := C.prog) (W := W) hargs (fun j t v ht hv => hval j t v (by rw [← Array.getElem?_toList]; exact ht) (by rw [← Array.getElem?_toList]; exact hv)) hA (fun n hn => by
    have := List.all_eq_true.1 hsz n (by
      have e : s.plain.varTypes C.prog = [] := by simp [DataSpec.varTypes, ChangeSpec.plain, hvars]
      rw [e, List.append_nil, List.append_nil]; exact hn)
    simpa using this)
  obtain ⟨k, hk'⟩ := plain x ox
  have hcall := law_calls (hk k) hk' hx
  rw [Array.toArray_toList] at hcall
  refine hcall.mono fun e W' ⟨he, bel⟩ => ?_
  subst he
  refine ⟨_, rfl, ds, [], _, [], p, [], hW', ?_, ?_, ?_, bel.frame _, fun h => by cases h⟩
  · rw [hres, List.append_nil, hspec H ds (by omega)]; exact trodAll_mk1 (shut_bool htb _)
  · rw [List.append_nil, hspec H ds (by omega)]
    exact trodAll_below hl bel (fun t ht => by
      have := List.all_eq_true.1 hrd t ht
      rw [Bool.and_eq_true, Nat.blt_eq] at this; exact this) hA (fun x hx => DataW.TrodAll.lt hA x hx)
  · rw [hvars, List.append_nil, hspec H ds (by omega)]; exact rfl
end Go.Eng

namespace Go.Eng
section
variable {R : Type}
abbrev KX (R : Type) := JX → St → Option R
structure YU where
  all : Array Oper
  pre : List Oper
  oc : Oper
  on : Oper
  x : Operand
  args : List Operand
  d : Nat
  t : Nat
def yieldR (ops : Array Oper) (t : Nat) : Option YU :=
  match ops.toList.reverse with
  | on :: oc :: pre => match on.op, on.dst, on.guard, oc.op, oc.dst, oc.guard with
    | .unOp .not _ (.tmp d'), some t', none, .call c, some d, none => match c.callee with
      | .value (.tmp q) => cond (Nat.beq t t' && Nat.beq d d') (some ⟨ops, pre.reverse, oc, on, .tmp q, c.args.toList, d, t⟩) none
      | _ => none
    | _, _, _, _, _, _ => none
  | _ => none
def yieldP : Code → Option YU
  | .seq (.region _ ops false) (.cond (.tmp t) .ret .skip) => yieldR ops t
  | _ => none
structure Yd (R : Type) where
  gid : Nat
  run : Nat → List JV → St → (St → Option R) → Option R
structure Rg where
  f : FuncId
  gid : Nat
  nt : Nat
  code : Code
def okJ (m0 : Nat) (st : St) : Bool := ownJ st.H m0 (st.nx - m0)
def popJ (n : Nat) (st : St) : St := ⟨fun i => st.env (i + n), st.H, st.nx⟩
def setPs : List Nat → List JV → (Nat → JV) → Nat → JV
  | p :: ps, a :: as, env => setPs ps as (upd env p a)
  | _, _, env => env
def bodyJ (n nt : Nat) (ps : List Nat) (args : List JV) (st : St) : St :=
  ⟨fun i => cond (Nat.blt i n) (setPs ps args (fun i => st.env (i + nt)) i) (st.env (i - n)), st.H, st.nx⟩
def enterJ (g : Rg) (caps : List JV) (st : St) : St :=
  ⟨fun i => cond (Nat.blt i g.nt) (argAt (.fn YG [.ptr g.gid 0] :: caps) i) (st.env (i - g.nt)), upd st.H g.gid (some (.box [] true)), g.gid + 1⟩
abbrev Ev (R : Type) := Yd R → Nat → Nat → Code → St → KX R → Option R
abbrev LT (R : Type) := Nat → St → Option R
def boxB : Option JObj → Bool
  | some (.box _ _) => true
  | _ => false
def isFalse (v : JV) : Bool := match v with
  | .bool b => !b
  | _ => false
def yieldJ (P : Program) (C : CallJ R) (y : Yd R) (sh : Nat) (u : YU) (st : St) (K : KX R) : Option R :=
  opsJ P C u.all u.pre st fun st => match opndJ st u.x with
    | .fn g [.ptr id o] => cond (Nat.beq g YG && (Nat.beq id y.gid && (Nat.beq o 0 && boxB (st.H id)))) (y.run sh (u.args.map (opndJ st)) st fun st' => opsJ P C u.all [u.on] (st'.set (some u.d) (.bool true)) fun st2 => cond (isFalse (st2.env u.t)) (K .normal st2) none) none
    | _ => none
def roundK (m0 n nt : Nat) (Kres : St → Option R) (K : KX R) : KX R := fun e st => cond (okJ m0 st) (match e with
  | .normal => Kres (popJ n st)
  | .exit id => K (.exit id) (popJ (n + nt) st)
  | .ret => K .ret (popJ (n + nt) st)) none
def iterK (m0 nt : Nat) (K : KX R) : KX R := fun e st => match e with
  | .exit _ => none
  | _ => cond (okJ m0 st) (K .normal (popJ nt st)) none
def onlyN (K : St → Option R) : KX R := fun e st => match e with
  | .normal => K st
  | _ => none
def codeY1 (P : Program) (C : CallJ R) (m0 : Nat) : LT R → (Nat → Option Rg) → Ev R → Option (Yd R) → Nat → Nat → Nat → Code → St → KX R → Option R
  | _, _, _, _, _, _, _, .skip, st, K => K .normal st
  | _, _, _, _, _, _, _, .region _ ops draw, st, K => cond draw (cond (calmB P ops.toList) (calmJ P C ops.toList ops.toList st (K .normal)) (cond (briskB P ops.toList) (briskR P C ops.toList st (K .normal)) (anyJ P C ops st (K .normal)))) (opsJ P C ops ops.toList st (K .normal))
  | L, T, ev, Y, sh, n, off, .seq a b, st, K => match Y with
    | none => codeY1 P C m0 L T ev none sh n off a st (andThen (fun st' => codeY1 P C m0 L T ev none sh n off b st' K) K)
    | some y => match yieldP (.seq a b) with
      | some u => yieldJ P C y sh u st K
      | none => codeY1 P C m0 L T ev (some y) sh n off a st (andThen (fun st' => codeY1 P C m0 L T ev (some y) sh n off b st' K) K)
  | L, T, ev, Y, sh, n, off, .cond c a b, st, K => asBoolK (opndJ st c) fun t => cond t (codeY1 P C m0 L T ev Y sh n off a st K) (codeY1 P C m0 L T ev Y sh n off b st K)
  | L, T, ev, Y, sh, n, off, .block id c, st, K => codeY1 P C m0 L T ev Y sh n off c st (inBlk id K)
  | L, _, _, _, _, _, off, .loop c, st, _ => L (off + headId c) st
  | _, _, _, _, _, _, _, .exit id, st, K => K (.exit id) st
  | _, _, _, _, _, _, _, .ret, st, K => K .ret st
  | _, T, ev, Y, sh, n, off, .rangeFunc f ps assign body, st, K => match f with
    | .tmp t => match T (off + headId body) with
      | some g => match st.env t with
        | .fn f caps => cond (Nat.beq f g.f && (!Nat.beq f YG && (Nat.ble st.nx g.gid && (okJ m0 st && Nat.ble (caps.length + 1) g.nt))))
            (ev ⟨g.gid, fun sh1 args st Kres => cond (okJ m0 st && Nat.beq args.length ps.size)
    (codeY1 P C m0 (fun _ _ => none) (fun _ => none) (fun _ _ _ _ _ _ => none) none 0 n off assign (bodyJ n (g.nt + sh1) ps.toList args st) (onlyN fun st1 =>
      cond (okJ m0 st1) (codeY1 P C m0 (fun _ _ => none) (fun _ => none) (fun _ _ _ _ _ _ => none) Y (g.nt + sh1 + n + sh) n off body st1 (roundK m0 n (g.nt + sh1) Kres K)) none)) none⟩
              g.nt ((off + headId body + 1) * 1000) g.code (enterJ g caps st) (iterK m0 g.nt K)) none
        | _ => none
      | none => none
    | _ => none
  | _, _, _, _, _, _, _, _, _, _ => none
def codeY (P : Program) (C : CallJ R) (m0 : Nat) (L : LT R) (T : Nat → Option Rg) : Nat → Option (Yd R) → Nat → Nat → Nat → Code → St → KX R → Option R
  | 0 => codeY1 P C m0 L T (fun _ _ _ _ _ _ => none)
  | d + 1 => codeY1 P C m0 L T (fun y n off c st K => codeY P C m0 L T d (some y) 0 n off c st K)
def recY (P : Program) (C : CallJ R) (m0 : Nat) (Y : Option (Yd R)) (sh n off : Nat) (g : Rg) (ps : Array Nat) (assign body : Code) (K : KX R) : Yd R :=
  ⟨g.gid, fun sh1 args st Kres => cond (okJ m0 st && Nat.beq args.length ps.size)
    (codeY1 P C m0 (fun _ _ => none) (fun _ => none) (fun _ _ _ _ _ _ => none) none 0 n off assign (bodyJ n (g.nt + sh1) ps.toList args st) (onlyN fun st1 =>
      cond (okJ m0 st1) (codeY1 P C m0 (fun _ _ => none) (fun _ => none) (fun _ _ _ _ _ _ => none) Y (g.nt + sh1 + n + sh) n off body st1 (roundK m0 n (g.nt + sh1) Kres K)) none)) none⟩
structure Lp (R : Type) where
  d : Nat
  Y : Option (Yd R)
  n : Nat
  off : Nat
  m : Nat
  c : Code
  K : KX R
abbrev EvA (R : Type) := Yd R → Nat → Nat → Nat → Code → KX R → List (Lp R)
def allY1 (P : Program) (C : CallJ R) (m0 : Nat) (L : LT R) (T : Nat → Option Rg) (ev : Ev R) (eva : EvA R) (d : Nat) (Y : Option (Yd R)) (n off m : Nat) (key : Nat) : Code → KX R → List (Lp R)
  | .seq a b, K => match Y with
    | none => allY1 P C m0 L T ev eva d none n off m key a (andThen (fun st' => codeY1 P C m0 L T ev none 0 n off b st' K) K) ++ allY1 P C m0 L T ev eva d none n off m key b K
    | some y => match yieldP (.seq a b) with
      | some _ => []
      | none => allY1 P C m0 L T ev eva d (some y) n off m key a (andThen (fun st' => codeY1 P C m0 L T ev (some y) 0 n off b st' K) K) ++ allY1 P C m0 L T ev eva d (some y) n off m key b K
  | .cond _ a b, K => allY1 P C m0 L T ev eva d Y n off m key a K ++ allY1 P C m0 L T ev eva d Y n off m key b K
  | .block id c, K => allY1 P C m0 L T ev eva d Y n off m key c (inBlk id K)
  | .loop c, K => cond (Nat.beq (off + headId c) key) [⟨d, Y, n, off, m, c, K⟩] [] ++ allY1 P C m0 L T ev eva d Y n off m key c (andThen (L (off + headId c)) K)
  | .rangeFunc _ ps assign body, K => match T (off + headId body) with
    | some g => eva (recY P C m0 Y 0 n off g ps assign body K) g.nt ((off + headId body + 1) * 1000) (g.gid + 1) g.code (iterK m0 g.nt K)
    | none => []
  | _, _ => []
def allY (P : Program) (C : CallJ R) (m0 : Nat) (L : LT R) (T : Nat → Option Rg) (key : Nat) : Nat → Option (Yd R) → Nat → Nat → Nat → Code → KX R → List (Lp R)
  | 0 => fun Y n off m => allY1 P C m0 L T (fun _ _ _ _ _ _ => none) (fun _ _ _ _ _ _ => []) 0 Y n off m key
  | d + 1 => fun Y n off m => allY1 P C m0 L T (fun y n off c st K => codeY P C m0 L T d (some y) 0 n off c st K) (fun y n off m c K => allY P C m0 L T key d (some y) n off m c K) (d + 1) Y n off m key
def roundY (P : Program) (C : CallJ R) (m0 : Nat) (L : LT R) (T : Nat → Option Rg) (key mc d n : Nat) (c : Code) (K : KX R) (st : St) : Option R :=
  match allY P C m0 L T key d none n 0 m0 c K with
  | [l] => cond (Nat.beq l.m mc) (codeY P C m0 L T l.d l.Y 0 l.n l.off l.c st (andThen (L key) l.K)) none
  | _ => none
end
def Tof : List (Nat × Rg) → Nat → Option Rg
  | [], _ => none
  | (k, g) :: r, n => cond (Nat.beq n k) (some g) (Tof r n)
structure CutY (B : Type) where
  id : Nat
  m : Nat
  slots : List Nat
  ps : VPL
  os : List OP
  F : Nat → ps.T → OPL.T os → Option B
def LofY {B : Type} (k : Nat) : List (CutY B) → Nat → St → Option B
  | [], _, _ => none
  | c :: r, n, st => cond (Nat.beq n c.id) (match canonJ c.m c.ps c.os (c.slots.map st.env) st with
    | some (st2, order, x, y) => cond (rwOK st2.H c.os order) (c.F k x y) (LofY k r n st)
    | none => LofY k r n st) (LofY k r n st)
def endY (P : Program) (m : Nat) (res : List ResultVar) (alts : List Alt) : KX (AT alts) := fun e st => cond (okJ m st) (endJ P m res alts e st) none
end Go.Eng

namespace Go.Eng
variable {R : Type} {P : Program} {r : R}
def LeS (r : R) (K K' : St → Option R) : Prop := ∀ st, K st = some r → K' st = some r
def LeX (r : R) (K K' : KX R) : Prop := ∀ e st, K e st = some r → K' e st = some r
theorem LeS.refl (K : St → Option R) : LeS r K K := fun _ h => h
theorem LeX.refl (K : KX R) : LeX r K K := fun _ _ h => h
theorem cond_mono {b : Bool} {x y x' y' : Option R} (h : cond b x y = some r) (h1 : x = some r → x' = some r) (h2 : y = some r → y' = some r) : cond b x' y' = some r := by
  cases b
  · exact h2 h
  · exact h1 h
section
variable {C : CallJ R} {C' : CallJ PK} (hN : CallNat C C')
include hN
theorem opJ_mono {o : Op} {t : TypeId} {st : St} {K K' : K1 R} (hK : opJ P C o t st K = some r) (h : ∀ v st, K v st = some r → K' v st = some r) : opJ P C o t st K' = some r := by
  rw [opJ_nat hN] at hK ⊢
  cases hx : opJ P C' o t st pk with
  | none => rw [hx] at hK; cases hK
  | some p => rw [hx] at hK; exact h _ _ hK
omit hN in
theorem bool_mono {v : JV} {K K' : Bool → Option R} (hK : asBoolK v K = some r) (h : ∀ b, K b = some r → K' b = some r) : asBoolK v K' = some r := by
  unfold asBoolK at hK ⊢
  split at hK
  · split at hK
    · rename_i h1; rw [if_pos h1]; exact h _ hK
    · rename_i h1; rw [if_neg h1]; exact h _ hK
  · cases hK
theorem opsJ_mono {all : Array Oper} {K K' : St → Option R} (h : LeS r K K') : ∀ {l : List Oper} {st : St}, opsJ P C all l st K = some r → opsJ P C all l st K' = some r
  | [], st, hK => h _ hK
  | o :: l, st, hK => by
    simp only [opsJ] at hK ⊢
    split at hK
    · exact opJ_mono hN hK fun v st h1 => opsJ_mono h h1
    · split at hK
      · cases hK
      · split at hK
        · exact opsJ_mono h hK
        · exact bool_mono hK fun b h1 => cond_mono h1 (fun h2 => opJ_mono hN h2 fun v st h3 => opsJ_mono h h3) (fun h2 => opsJ_mono h h2)
omit hN in
theorem guard_mono {all : List Oper} {g : Option (Nat × Bool)} {st : St} {Y Y' N N' : St → Option R} (hK : guardJ all g st Y N = some r) (h1 : LeS r Y Y') (h2 : LeS r N N') : guardJ all g st Y' N' = some r := by
  unfold guardJ at hK ⊢
  split at hK
  · exact h1 _ hK
  · split at hK
    · cases hK
    · split at hK
      · exact h2 _ hK
      · exact bool_mono hK fun b h3 => cond_mono h3 (h1 _) (h2 _)
theorem draw_mono {all : List Oper} {as : List (List Nat)} {K K' : St → Option R} (h : LeS r K K') : ∀ {l : List Oper} {j b nb : Nat} {rg : List (Nat × Nat × Nat)} {st : St}, drawJ P C all as l j b nb rg st K = some r → drawJ P C all as l j b nb rg st K' = some r
  | [], j, b, nb, rg, st, hK => h _ hK
  | o :: l, j, b, nb, rg, st, hK => by
    simp only [drawJ] at hK ⊢
    exact cond_mono hK
      (fun h1 => guard_mono h1 (fun st h2 => opJ_mono hN h2 fun v st' h3 => draw_mono h h3) (fun st h2 => draw_mono h h2))
      (fun h1 => guard_mono h1 (fun st h2 => opJ_mono hN h2 fun v st' h3 => cond_mono h3 (draw_mono h) fun h4 => h4) (fun st h2 => draw_mono h h2))
theorem any_mono {ops : Array Oper} {st : St} {K K' : St → Option R} (h : LeS r K K') (hK : anyJ P C ops st K = some r) : anyJ P C ops st K' = some r := by
  unfold anyJ anyR at hK ⊢
  split at hK
  · exact cond_mono hK (draw_mono hN h) fun h1 => h1
  · cases hK
omit hN in
theorem store1_mono {t : TypeId} {a v : JV} {st : St} {K K' : K1 R} (hK : store1J P t a v st K = some r) (h : ∀ v st, K v st = some r → K' v st = some r) : store1J P t a v st K' = some r := by
  have e : ∀ K : K1 R, store1J P t a v st K = on (store1J P t a v st pk) K := fun K => store1J_nat
  rw [e] at hK ⊢
  cases hx : store1J P t a v st pk with
  | none => rw [hx] at hK; cases hK
  | some p => rw [hx] at hK; exact h _ _ hK
theorem calm_mono {all : List Oper} {K K' : St → Option R} (h : LeS r K K') : ∀ {l : List Oper} {st : St}, calmJ P C all l st K = some r → calmJ P C all l st K' = some r
  | [], st, hK => h _ hK
  | o :: l, st, hK => by
    simp only [calmJ] at hK ⊢
    refine guard_mono hK (fun st h1 => ?_) (fun st h1 => calm_mono h h1)
    split at h1
    · exact store1_mono h1 fun v st' h2 => calm_mono h h2
    · exact opJ_mono hN h1 fun v st' h2 => calm_mono h h2
theorem briskJ_mono {all : List Oper} {as : List (List Nat)} {nb : Nat} {K K' : St → Option R} (h : LeS r K K') : ∀ {l : List Oper} {j : Nat} {st : St}, briskJ P C all as nb l j st K = some r → briskJ P C all as nb l j st K' = some r
  | [], j, st, hK => h _ hK
  | o :: l, j, st, hK => by
    simp only [briskJ] at hK ⊢
    refine guard_mono hK (fun st h1 => ?_) (fun st h1 => briskJ_mono h h1)
    split at h1
    · exact cond_mono h1 (briskJ_mono h) fun h2 => h2
    · exact opJ_mono hN h1 fun v st' h2 => briskJ_mono h h2
    · exact opJ_mono hN h1 fun v st' h2 => cond_mono h2 (fun h3 => cond_mono h3 (briskJ_mono h) fun h4 => h4) (fun h3 => cond_mono h3 (briskJ_mono h) fun h4 => h4)
theorem brisk_mono {all : List Oper} {st : St} {K K' : St → Option R} (h : LeS r K K') (hK : briskR P C all st K = some r) : briskR P C all st K' = some r := by
  unfold briskR at hK ⊢
  split at hK
  · exact briskJ_mono hN h hK
  · cases hK
end
theorem LeX.then {K' K2' : St → Option R} {K K2 : KX R} (h : LeX r K K2) (h' : LeS r K' K2') : LeX r (andThen K' K) (andThen K2' K2) := fun e st hK => by
  cases e with
  | normal => exact h' _ hK
  | exit id => exact h _ _ hK
  | ret => exact h _ _ hK
theorem LeX.blk {id : Nat} {K K2 : KX R} (h : LeX r K K2) : LeX r (inBlk id K) (inBlk id K2) := fun e st hK => by
  cases e with
  | normal => exact h _ _ hK
  | exit id' => exact cond_mono (b := Nat.beq id' id) hK (h _ _) (h _ _)
  | ret => exact h _ _ hK
theorem LeX.at {K K' : KX R} (h : LeX r K K') (e : JX) : LeS r (K e) (K' e) := h e
def LeY (r : R) : Option (Yd R) → Option (Yd R) → Prop
  | none, none => True
  | some y, some y' => y.gid = y'.gid ∧ ∀ sh args st K K', LeS r K K' → y.run sh args st K = some r → y'.run sh args st K' = some r
  | _, _ => False
def LeEv (r : R) (ev ev' : Ev R) : Prop := ∀ y y', LeY r (some y) (some y') → ∀ n off c st K K', LeX r K K' → ev y n off c st K = some r → ev' y' n off c st K' = some r
def LeL (r : R) (L L' : LT R) : Prop := ∀ n, LeS r (L n) (L' n)
theorem onlyN_mono {K K' : St → Option R} (h : LeS r K K') : LeX r (onlyN K) (onlyN K') := fun e st hK => by
  cases e with
  | normal => exact h _ hK
  | exit id => exact hK
  | ret => exact hK
theorem roundK_mono {m0 n nt : Nat} {Kr Kr' : St → Option R} {K K' : KX R} (h1 : LeS r Kr Kr') (h : LeX r K K') : LeX r (roundK m0 n nt Kr K) (roundK m0 n nt Kr' K') := fun e st hK => by
  unfold roundK at hK ⊢
  refine cond_mono hK (fun h2 => ?_) fun h2 => h2
  cases e with
  | normal => exact h1 _ h2
  | exit id => exact h _ _ h2
  | ret => exact h _ _ h2
theorem iterK_mono {m0 nt : Nat} {K K' : KX R} (h : LeX r K K') : LeX r (iterK m0 nt K) (iterK m0 nt K') := fun e st hK => by
  cases e with
  | normal => exact cond_mono (b := okJ m0 st) hK (h _ _) fun h2 => h2
  | exit id => exact hK
  | ret => exact cond_mono (b := okJ m0 st) hK (h _ _) fun h2 => h2
section
variable {C : CallJ R} {C' : CallJ PK} (hN : CallNat C C')
include hN
theorem yield_mono {y y' : Yd R} {sh : Nat} {u : YU} {st : St} {K K' : KX R} (hy : LeY r (some y) (some y')) (h : LeX r K K') (hK : yieldJ P C y sh u st K = some r) : yieldJ P C y' sh u st K' = some r := by
  obtain ⟨hg, hrun⟩ := hy
  unfold yieldJ at hK ⊢
  refine opsJ_mono hN (fun st h1 => ?_) hK
  split at h1
  · rw [← hg]
    refine cond_mono h1 (fun h2 => hrun _ _ _ _ _ (fun st' h3 => ?_) h2) fun h2 => h2
    exact opsJ_mono hN (fun st2 h4 => cond_mono h4 (h _ _) fun h5 => h5) h3
  · cases h1
theorem codeY1_mono {m0 : Nat} : ∀ {c : Code} {L L' : LT R} {T : Nat → Option Rg} {ev ev' : Ev R} {Y Y' : Option (Yd R)} {sh n off : Nat} {st : St} {K K' : KX R}, LeL r L L' → LeEv r ev ev' → LeY r Y Y' → LeX r K K' → codeY1 P C m0 L T ev Y sh n off c st K = some r → codeY1 P C m0 L' T ev' Y' sh n off c st K' = some r
  | .skip, L, L', T, ev, ev', Y, Y', sh, n, off, st, K, K', hL, hE, hY, h, hK => h _ _ hK
  | .region id ops draw, L, L', T, ev, ev', Y, Y', sh, n, off, st, K, K', hL, hE, hY, h, hK => by
    unfold codeY1 at hK ⊢
    exact cond_mono hK (fun h1 => cond_mono h1 (calm_mono hN (h .normal)) fun h2 => cond_mono h2 (brisk_mono hN (h .normal)) (any_mono hN (h .normal))) (opsJ_mono hN (h .normal))
  | .seq a b, L, L', T, ev, ev', Y, Y', sh, n, off, st, K, K', hL, hE, hY, h, hK => by
    unfold codeY1 at hK ⊢
    cases Y with
    | none => cases Y' with
      | some _ => exact hY.elim
      | none => exact codeY1_mono (c := a) hL hE hY (h.then fun st' h1 => codeY1_mono (c := b) hL hE hY h h1) hK
    | some y => cases Y' with
      | none => exact hY.elim
      | some y' =>
        simp only at hK ⊢
        split at hK
        · exact yield_mono hN hY h hK
        · exact codeY1_mono (c := a) hL hE hY (h.then fun st' h1 => codeY1_mono (c := b) hL hE hY h h1) hK
  | .cond c a b, L, L', T, ev, ev', Y, Y', sh, n, off, st, K, K', hL, hE, hY, h, hK => by
    unfold codeY1 at hK ⊢
    exact bool_mono hK fun t h1 => cond_mono h1 (codeY1_mono (c := a) hL hE hY h) (codeY1_mono (c := b) hL hE hY h)
  | .block id c, L, L', T, ev, ev', Y, Y', sh, n, off, st, K, K', hL, hE, hY, h, hK => by
    unfold codeY1 at hK ⊢
    exact codeY1_mono (c := c) hL hE hY h.blk hK
  | .loop c, L, L', T, ev, ev', Y, Y', sh, n, off, st, K, K', hL, hE, hY, h, hK => by
    unfold codeY1 at hK ⊢
    exact hL _ _ hK
  | .exit id, L, L', T, ev, ev', Y, Y', sh, n, off, st, K, K', hL, hE, hY, h, hK => h _ _ hK
  | .ret, L, L', T, ev, ev', Y, Y', sh, n, off, st, K, K', hL, hE, hY, h, hK => h _ _ hK
  | .rangeFunc f ps assign body, L, L', T, ev, ev', Y, Y', sh, n, off, st, K, K', hL, hE, hY, h, hK => by
    unfold codeY1 at hK ⊢
    split at hK
    · split at hK
      · split at hK
        · rename_i g _ _ _ _ _
          refine cond_mono hK (fun h1 => hE (recY P C m0 Y sh n off g ps assign body K) (recY P C m0 Y' sh n off g ps assign body K') ⟨rfl, fun sh1 args st1 Kr Kr' h2 h3 => ?_⟩ _ _ _ _ _ _ (iterK_mono h) h1) fun h1 => h1
          refine cond_mono h3 (fun h4 => ?_) fun h4 => h4
          have n1 : LeL r (fun _ _ => none) (fun _ _ => none) := fun _ _ h => h
          have n2 : LeEv r (fun _ _ _ _ _ _ => none) (fun _ _ _ _ _ _ => none) := fun _ _ _ _ _ _ _ _ _ _ h => h
          exact codeY1_mono (c := assign) (Y := none) (Y' := none) n1 n2 trivial (onlyN_mono fun st2 h5 => cond_mono h5 (fun h5 => codeY1_mono (c := body) n1 n2 hY (roundK_mono h2 h) h5) fun h5 => h5) h4
        · cases hK
      · cases hK
    · cases hK
  | .scope _, L, L', T, ev, ev', Y, Y', sh, n, off, st, K, K', hL, hE, hY, h, hK => by unfold codeY1 at hK; cases hK
  | .label _, L, L', T, ev, ev', Y, Y', sh, n, off, st, K, K', hL, hE, hY, h, hK => by unfold codeY1 at hK; cases hK
  | .goto _, L, L', T, ev, ev', Y, Y', sh, n, off, st, K, K', hL, hE, hY, h, hK => by unfold codeY1 at hK; cases hK
  | .refuse _, L, L', T, ev, ev', Y, Y', sh, n, off, st, K, K', hL, hE, hY, h, hK => by unfold codeY1 at hK; cases hK
theorem codeY_mono {m0 : Nat} {L L' : LT R} {T : Nat → Option Rg} (hL : LeL r L L') : ∀ {d : Nat} {Y Y' : Option (Yd R)} {sh n off : Nat} {c : Code} {st : St} {K K' : KX R}, LeY r Y Y' → LeX r K K' → codeY P C m0 L T d Y sh n off c st K = some r → codeY P C m0 L' T d Y' sh n off c st K' = some r
  | 0, Y, Y', sh, n, off, c, st, K, K', hY, h, hK => codeY1_mono hN hL (fun _ _ _ _ _ _ _ _ _ _ h => h) hY h hK
  | d + 1, Y, Y', sh, n, off, c, st, K, K', hY, h, hK => codeY1_mono hN hL (fun y y' h1 n off c st K K' h2 h3 => codeY_mono hL h1 h2 h3) hY h hK
end
end Go.Eng

namespace Go.Eng
variable {R : Type} {P : Program} {S : Sc} {w0 w : World} {E : En} {st : St} {r : R}
def wideR (ro : Option Nat) : Fence := { Fence.wide with round := ro }
theorem calls_wideR {ro : Option Nat} {n : Nat} {f : FuncId} {args : Array Value} {Q : Ending → World → Prop} (h : Calls P f args w Q) : CallsIn (wideR ro) n P f args w Q := (callsIn_wide (n := n)).2 h
theorem rows_wideR {ro : Option Nat} {n : Nat} {row : String} {args : Array Value} {Q : Value → World → Prop} (h : Rows P row args w Q) : RowsIn (wideR ro) n P row args w Q :=
  fun c cs _ => let ⟨v, w', q, s⟩ := h c cs; ⟨v, w', q, stepsIn_wide.2 s⟩
theorem wide_room (ro : Option Nat) (n : Nat) : (wideR ro).room n := room_wide n
structure Ext (n : Nat) (sus : Array Value) (ds : List Deferred) (A a : Act) : Prop where
  tmps : A.tmps = a.tmps ++ sus
  size : a.tmps.size = n
  defers : a.defers = A.defers ++ ds
def belowO (n : Nat) : Operand → Bool
  | .tmp t => Nat.blt t n
  | _ => true
def operOk (n : Nat) (o : Oper) : Bool :=
  dstOk n o && ((match o.op with
    | .select .. => false
    | .defer _ => false
    | _ => true) && o.op.operands.toList.all (belowO n))
variable {n : Nat} {sus : Array Value} {ds : List Deferred} {A a : Act}
theorem Ext.get (h : Ext n sus ds A a) {t : Nat} (ht : t < n) : A.tmps.getD t undef = a.tmps.getD t undef := by
  rw [h.tmps, Array.getD_eq_getD_getElem?, Array.getD_eq_getD_getElem?, Array.getElem?_append_left (by rw [h.size]; exact ht)]
theorem Ext.get? (h : Ext n sus ds A a) {t : Nat} (ht : t < n) : A.tmps[t]? = a.tmps[t]? := by
  rw [h.tmps, Array.getElem?_append_left (by rw [h.size]; exact ht)]
theorem Ext.eval (h : Ext n sus ds A a) {x : Operand} (hx : belowO n x = true) : A.eval x = a.eval x := by
  cases x with
  | tmp t => exact h.get (by simpa [belowO] using hx)
  | _ => rfl
theorem Ext.put (h : Ext n sus ds A a) {dst : Option Nat} (hd : ∀ d, dst = some d → d < n) (v : Value) : Ext n sus ds (A.put dst v) (a.put dst v) := by
  cases dst with
  | none => exact h
  | some d =>
    have hd := hd d rfl
    refine ⟨?_, ?_, h.defers⟩
    · show A.tmps.setIfInBounds d v = a.tmps.setIfInBounds d v ++ sus
      rw [h.tmps]
      apply Array.ext'
      simp only [Array.toList_setIfInBounds, Array.toList_append]
      rw [List.set_append_left _ _ (by rw [Array.length_toList, h.size]; exact hd)]
    · show (a.tmps.setIfInBounds d v).size = n
      rw [Array.size_setIfInBounds]; exact h.size
theorem Ext.yielded (h : Ext n sus ds A a) {all : Array Oper} (hall : all.toList.all (operOk n) = true) (j : Nat) : yielded all A.tmps j = yielded all a.tmps j := by
  unfold Go.yielded
  cases hj : all[j]? with
  | none => rfl
  | some o =>
    simp only [Option.bind_some]
    cases hd : o.dst with
    | none => rfl
    | some d =>
      simp only [Option.bind_some]
      have ho : operOk n o = true := List.all_eq_true.1 hall o (by rw [Array.mem_toList_iff]; exact Array.mem_of_getElem? hj)
      simp only [operOk, Bool.and_eq_true] at ho
      have := dstOk_ok ho.1 d hd
      rw [h.get? this]
theorem Ext.wanted (h : Ext n sus ds A a) {all : Array Oper} (hall : all.toList.all (operOk n) = true) (o : Oper) : Region.wanted o (Go.yielded all A.tmps) = Region.wanted o (Go.yielded all a.tmps) := by
  rw [show Go.yielded all A.tmps = Go.yielded all a.tmps from funext fun j => h.yielded hall j]
theorem exec_ext (h : Ext n sus ds A a) {o : Oper} (ho : operOk n o = true) (ro : Option Nat) : o.semAt ro a.eval = execOp A.eval o := by
  simp only [operOk, Bool.and_eq_true] at ho
  obtain ⟨_, h1, h2⟩ := ho
  rw [Oper.semAt_eq _ _ _ (fun c e => by rw [e] at h1; cases h1)]
  exact (execOp_congr o (fun cs b e => by rw [e] at h1; cases h1) fun x hx => h.eval (List.all_eq_true.1 h2 x (by rw [Array.mem_toList_iff]; exact hx))).symm
theorem op_tr {ro : Option Nat} {N : Act → World → Prop} {Q : Exit → Act → World → Prop} {o : Oper} {next next' : Act → World → Prop} (h : Ext n sus ds A a) (ho : operOk n o = true)
    (hn : ∀ A' a' w', Ext n sus ds A' a' → next A' w' → next' a' w') (hw : o.wp P A w next (onlyQ N)) : o.wpIn (wideR ro) 0 P a w next' Q := by
  refine ⟨fun _ _ => trivial, ?_⟩
  have e : o.semAt (wideR ro).round a.eval = execOp A.eval o := exec_ext h ho ro
  rw [e]
  have hd := dstOk_ok (Bool.and_eq_true _ _ ▸ ho : dstOk n o = true ∧ _).1
  unfold Oper.wp at hw
  generalize (execOp A.eval o).run P w = res at hw
  cases res with
  | halt x w' => cases x <;> first | exact hw.elim | exact hw
  | ok x w' =>
    cases x <;> first
      | exact hn _ _ _ (h.put hd _) hw
      | skip
    case defer d => exact hn _ _ _ (Ext.put (A := { A with defers := d :: A.defers }) (a := { a with defers := d :: a.defers }) ⟨h.tmps, h.size, by show d :: a.defers = d :: A.defers ++ ds; rw [h.defers]; rfl⟩ hd _) hw
    case enter f args =>
      refine ⟨fun hx => by simp [wideR, Fence.wide] at hx, calls_wideR (Calls.mono hw fun e w'' he => ?_)⟩
      cases e with
      | returned v => exact hn _ _ _ (h.put hd _) he
      | panicked c => exact he.elim
      | outgrown => exact (lets_onlyQ he).elim
    case row row args => exact ⟨fun hx => by simp [wideR, Fence.wide] at hx, rows_wideR (Rows.mono hw fun v w'' he => hn _ _ _ (h.put hd _) he)⟩
    all_goals exact hw.elim
theorem wpOp_tr {ro : Option Nat} {all : Array Oper} {N : Act → World → Prop} {Q : Exit → Act → World → Prop} {i : Nat} {next next' : Act → World → Prop} (hall : all.toList.all (operOk n) = true) (h : Ext n sus ds A a)
    (hn : ∀ A' a' w', Ext n sus ds A' a' → next A' w' → next' a' w') (hw : wpOp P all (onlyQ N) i next A w) : wpOpIn (wideR ro) 0 P all Q i next' a w := by
  unfold wpOp at hw; unfold wpOpIn
  cases ho : all[i]? with
  | none => rw [ho] at hw; exact hn _ _ _ h hw
  | some o =>
    rw [ho] at hw
    have hok : operOk n o = true := List.all_eq_true.1 hall o (by rw [Array.mem_toList_iff]; exact Array.mem_of_getElem? ho)
    simp only [h.wanted hall] at hw ⊢
    split
    · rename_i h1
      rw [if_pos h1] at hw
      rcases hw with hw | hw
      · exact op_tr h hok hn hw
      · exact (lets_onlyQ hw.2).elim
    · rename_i h1
      rw [if_neg h1] at hw
      exact ⟨fun _ _ => trivial, hn _ _ _ (h.put (dstOk_ok (Bool.and_eq_true _ _ ▸ hok : dstOk n o = true ∧ _).1) _) hw⟩
theorem wpAny_tr {ro : Option Nat} {all : Array Oper} {N : Act → World → Prop} {Q : Exit → Act → World → Prop} {md : Region.Mode} (hall : all.toList.all (operOk n) = true) (hQ : ∀ A' a' w', Ext n sus ds A' a' → N A' w' → Q .normal a' w') :
    ∀ {fuel : Nat} {listed : Array Bool} {A a : Act} {w : World}, Ext n sus ds A a → wpAny P md all (onlyQ N) fuel listed A w → wpAnyIn (wideR ro) 0 P md all Q fuel listed a w
  | 0, listed, A, a, w, h, hw => ⟨hw.1, hQ _ _ _ h hw.2⟩
  | fuel + 1, listed, A, a, w, h, hw => ⟨fun h1 => hQ _ _ _ h (hw.1 h1), fun i hi => wpOp_tr hall h (fun A' a' w' h1 h2 => wpAny_tr hall hQ h1 h2) (hw.2 i hi)⟩
theorem wpList_tr {ro : Option Nat} {all : Array Oper} {N : Act → World → Prop} {Q : Exit → Act → World → Prop} (hall : all.toList.all (operOk n) = true) {rest : List Oper} (hQ : ∀ A' a' w', Ext n sus ds A' a' → N A' w' → wpListIn (wideR ro) 0 P all Q rest a' w') :
    ∀ {l : List Oper} {A a : Act} {w : World}, l.all (operOk n) = true → Ext n sus ds A a → wpList P all (onlyQ N) l A w → wpListIn (wideR ro) 0 P all Q (l ++ rest) a w
  | [], A, a, w, hl, h, hw => hQ _ _ _ h hw
  | o :: l, A, a, w, hl, h, hw => by
    simp only [List.all_cons, Bool.and_eq_true] at hl
    unfold wpList at hw
    show (if _ then _ else _)
    simp only [h.wanted hall] at hw
    split
    · rename_i h1
      rw [if_pos h1] at hw
      rcases hw with hw | hw
      · exact op_tr h hl.1 (fun A' a' w' h1 h2 => wpList_tr hall hQ hl.2 h1 h2) hw
      · exact (lets_onlyQ hw.2).elim
    · rename_i h1
      rw [if_neg h1] at hw
      exact ⟨fun _ _ => trivial, wpList_tr hall hQ hl.2 (h.put (dstOk_ok (Bool.and_eq_true _ _ ▸ hl.1 : dstOk n o = true ∧ _).1) _) hw⟩
end Go.Eng

namespace Go.Eng
variable {R : Type} {P : Program} {S S0 : Sc} {w0 w00 w w' : World} {E : En} {st : St} {A a : Act} {r : R} {H : Nat → Option JObj} {nx : Nat}
def NC (o : Obj) : Prop := ∀ c t fz, o ≠ .cells c t fz
theorem RepH.ncput (h : RepH S0 w00 E H nx w) {k : Nat} {o : Obj} (hk : w.heap[k]? = some o) (hn : NC o) (hw : w00.heap.size ≤ k) (o' : Obj) : RepH S0 w00 E H nx (w.putObj k o') where
  keeps := h.keeps.same rfl rfl rfl (by simp) fun j hj _ => World.putObj_heap_other (by omega)
  obj id o1 hi := by
    have := (h.obj id o1 hi).go (w' := w.putObj k o') (f := some) (E' := E) (H' := H) ⟨fun id i hn e => by cases e; exact ⟨hn, rfl, .inr rfl⟩, fun _ _ _ h => h⟩ (i := id) rfl (fun hr hp => by
      obtain ⟨c, t, fz, hg⟩ := h.heapAt hi hr hp
      exact World.putObj_heap_other fun e => by rw [e, hk] at hg; cases hg; exact hn _ _ _ rfl)
    rwa [JObj.ren_some] at this
  own := h.own
  apart := h.apart
  imOK esc b c hc := by
    obtain ⟨t, fz, hg⟩ := h.imOK esc b c hc
    exact ⟨t, fz, by rw [World.putObj_heap_other fun e => by rw [e, hk] at hg; cases hg; exact hn _ _ _ rfl]; exact hg⟩
  imS := h.imS
  imSub := h.imSub
  fresh := h.fresh
  nx_ := h.nx_
  mle := h.mle
  pin := h.pin
  im0 := h.im0
  shape := h.shape
def ghostE (E : En) (gid l : Nat) : En := { E with nx := gid + 1, φ := upd E.φ gid ⟨l, 0, 0⟩ }
theorem ghost_goes (h : RepH S w0 E H nx w) {gid l : Nat} (hle : nx ≤ gid) : Goes some E H (ghostE E gid l) (upd H gid (some (.box [] true))) :=
  ⟨fun id i hn e => by
    cases e
    have : id < nx := by have := h.nx_; omega
    have hne : id ≠ gid := by omega
    exact ⟨by show id < gid + 1; omega, upd_ne _ _ hne, .inr (by rw [upd_ne _ _ hne])⟩, fun _ _ _ h => h⟩
theorem RepH.ghost (h : RepH S w0 E H nx w) {gid : Nat} (l : Nat) (hle : nx ≤ gid) : RepH S w0 (ghostE E gid l) (upd H gid (some (.box [] true))) (gid + 1) w where
  keeps := h.keeps
  obj id o hi := by
    by_cases hid : id = gid
    · subst hid
      rw [upd_same] at hi; cases hi
      exact ObjOK_iff.2 ⟨[], rfl, .inl ⟨rfl, by show ((upd E.φ id ⟨l, 0, 0⟩) id).room = 0; rw [upd_same]⟩⟩
    · rw [upd_ne _ _ hid] at hi
      have := (h.obj id o hi).go (w' := w) (f := some) (ghost_goes (l := l) h hle) (i := id) (upd_ne _ _ hid) (fun _ _ => rfl)
      rwa [JObj.ren_some] at this
  own id o hi hr hp := by
    by_cases hid : id = gid
    · subst hid
      have hp : 0 < ((upd E.φ id ⟨l, 0, 0⟩) id).room := hp
      rw [upd_same] at hp; exact absurd hp (Nat.lt_irrefl 0)
    · rw [upd_ne _ _ hid] at hi
      have e : (ghostE E gid l).φ id = E.φ id := upd_ne _ _ hid
      rw [e] at hp ⊢; exact h.own id o hi hr hp
  apart i j x y hi hj hx hy hpx hpy he := by
    have e : ∀ {id : Nat}, 0 < ((ghostE E gid l).φ id).room → id ≠ gid := fun {id} hp e => by
      subst e
      have hp : 0 < ((upd E.φ id ⟨l, 0, 0⟩) id).room := hp
      rw [upd_same] at hp; exact absurd hp (Nat.lt_irrefl 0)
    have hi' := e hpx
    have hj' := e hpy
    rw [upd_ne _ _ hi'] at hi; rw [upd_ne _ _ hj'] at hj
    have e1 : (ghostE E gid l).φ i = E.φ i := upd_ne _ _ hi'
    have e2 : (ghostE E gid l).φ j = E.φ j := upd_ne _ _ hj'
    rw [e1] at hpx he; rw [e2] at hpy he
    exact h.apart i j x y hi hj hx hy hpx hpy he
  imOK := h.imOK
  imS := h.imS
  imSub := h.imSub
  fresh id hi := by rw [upd_ne _ _ (by omega)]; exact h.fresh id (by omega)
  nx_ := rfl
  mle := by have := h.mle; omega
  pin i hi := by
    have := h.mle
    show upd E.φ gid _ i = _
    rw [upd_ne _ _ (by omega)]; exact h.pin i hi
  im0 := h.im0
  shape i hi := by
    have := h.mle
    rw [upd_ne _ _ (by omega)]; exact h.shape i hi
theorem own_at_ok : ∀ {H : Nat → Option JObj} {nb n : Nat}, ownJ H nb n = true → ∀ id o, nb ≤ id → id < nb + n → H id = some o → o.rw = true
  | H, nb, 0, _, id, o, h1, h2, _ => by omega
  | H, nb, n + 1, h, id, o, h1, h2, ho => by
    simp only [ownJ, Bool.and_eq_true] at h
    by_cases hid : id = nb + n
    · subst hid
      have := h.1
      rw [ho] at this; exact this
    · exact own_at_ok h.2 id o h1 (by omega) ho
def Ro (m : Nat) (H : Nat → Option JObj) : Prop := ∀ id o, H id = some o → o.rw = false → id < m
theorem ok_ro {m : Nat} (h : okJ m st = true) (hf : ∀ id, st.nx ≤ id → st.H id = none) : Ro m st.H := fun id o ho hr => by
  rcases Nat.lt_or_ge id m with h1 | h1
  · exact h1
  · rcases Nat.lt_or_ge id st.nx with h2 | h2
    · have := own_at_ok h id o h1 (by omega) ho
      rw [this] at hr; cases hr
    · rw [hf id h2] at ho; cases ho
def Back (S0 : Sc) (w00 : World) (S : Sc) (w0 : World) : Prop := ∀ E H nx w, RepH S w0 E H nx w → Ro S0.m H → RepH S0 w00 (E.wim (keepIm E H)) H nx w
theorem back_tight (h : RepH S0 w00 E H nx w) {m : Nat} (hm : S0.m ≤ m) : Back S0 w00 (tightM E H nx m) w := fun E' H' nx' w' k hro =>
  (h.untightM hm k fun id o h1 h2 => Nat.lt_of_lt_of_le (hro id o h1 h2) hm).1
def markIds : List Deferred → List Nat
  | [] => []
  | d :: ds => match d.target with
    | .collected r => r :: markIds ds
    | _ => markIds ds
def prM (ds : List Deferred) (pr : Nat → Option Obj) : Nat → Option Obj := fun k => if k ∈ markIds ds then some (.deferred (some [])) else pr k
structure MarksWf (pr : Nat → Option Obj) (ds : List Deferred) : Prop where
  form : ∀ d ∈ ds, ∃ r, d = { target := .collected r, args := #[] }
  nodup : (markIds ds).Nodup
  apart : ∀ k ∈ markIds ds, pr k = none
structure Dx where
  ro : Option Nat
  n : Nat
  sus : Array Value
  m : Nat
  pins : Nat → Option Nat
  pr : Nat → Option Obj
  ab : Option (Nat × (World → Prop))
def PrOK (w00 : World) (pr : Nat → Option Obj) (w : World) : Prop := ∀ k o, pr k = some o → NC o ∧ w00.heap.size ≤ k ∧ w.heap[k]? = some o
structure Cx (S0 : Sc) (w00 : World) (δ : Dx) (ds : List Deferred) (S : Sc) (w0 : World) : Prop where
  m : S.m = δ.m
  back : Back S0 w00 S w0
  pins : ∀ g l, δ.pins g = some l → g < δ.m ∧ S.φ0 g = ⟨l, 0, 0⟩
  prot : PrOK w00 (prM ds δ.pr) w0
  free : ∀ k o, prM ds δ.pr k = some o → ¬ S k
  marks : MarksWf δ.pr ds
structure Top (S0 : Sc) (w00 : World) (δ : Dx) (ds : List Deferred) (st : St) (A : Act) (w : World) (E : En) : Prop where
  rep : Rep S0 w00 E st A w
  hro : Ro S0.m st.H
  mle : δ.m ≤ st.nx
  pins : ∀ g l, δ.pins g = some l → g < δ.m ∧ E.φ g = ⟨l, 0, 0⟩
  prot : PrOK w00 (prM ds δ.pr) w
  marks : MarksWf δ.pr ds
variable {δ : Dx} {ds : List Deferred}
theorem Cx.at (c : Cx S0 w00 δ ds S w0) (h : RepH S w0 E H nx w) : PrOK w00 (prM ds δ.pr) w := fun k o hk => by
  obtain ⟨h1, h2, h3⟩ := c.prot k o hk
  exact ⟨h1, h2, by rw [h.keeps.block k (Array.getElem?_eq_some_iff.1 h3).1 (c.free k o hk)]; exact h3⟩
theorem Cx.leave (c : Cx S0 w00 δ ds S w0) (h : Rep S w0 E st A w) (hro : Ro S0.m st.H) : Top S0 w00 δ ds st A w (E.wim (keepIm E st.H)) where
  rep := { c.back _ _ _ _ h.toRepH hro with env := fun i => lvl_RV keepIm_lvl (h.env i), defers := h.defers }
  hro := hro
  mle := by rw [← c.m]; exact h.mle
  pins g l hg := by
    obtain ⟨h1, h2⟩ := c.pins g l hg
    exact ⟨h1, (h.pin g (by rw [c.m]; exact h1)).trans h2⟩
  prot := c.at h.toRepH
  marks := c.marks
theorem Top.enter (t : Top S0 w00 δ ds st A w E) (hm : S0.m ≤ δ.m) : Cx S0 w00 δ ds (tightM E st.H st.nx δ.m) w ∧ Rep (tightM E st.H st.nx δ.m) w E st A w := by
  refine ⟨⟨rfl, back_tight t.rep.toRepH hm, t.pins, t.prot, fun k o hk hS => ?_, t.marks⟩, { t.rep.toRepH.tightM t.mle with env := t.rep.env, defers := t.rep.defers }⟩
  obtain ⟨id, x, h1, h2, h3, rfl⟩ := hS
  obtain ⟨c, ty, fz, hg⟩ := t.rep.toRepH.heapAt h1 h2 h3
  obtain ⟨h4, _, h5⟩ := t.prot _ _ hk
  rw [hg] at h5; cases h5; exact h4 _ _ _ rfl
theorem PrOK.put {pr : Nat → Option Obj} (h : PrOK w00 pr w) {k : Nat} (hk : pr k = none) (o : Obj) : PrOK w00 pr (w.putObj k o) := fun j x hj => by
  obtain ⟨h1, h2, h3⟩ := h j x hj
  exact ⟨h1, h2, by rw [World.putObj_heap_other fun e => by rw [e, hk] at hj; cases hj]; exact h3⟩
theorem Top.put (t : Top S0 w00 δ ds st A w E) {k : Nat} {o : Obj} (hk : w.heap[k]? = some o) (hn : NC o) (hw : w00.heap.size ≤ k) (hp : prM ds δ.pr k = none) (o' : Obj) : Top S0 w00 δ ds st A (w.putObj k o') E where
  rep := { t.rep.toRepH.ncput hk hn hw o' with env := t.rep.env, defers := t.rep.defers }
  hro := t.hro
  mle := t.mle
  pins := t.pins
  prot := t.prot.put hp o'
  marks := t.marks
theorem PrOK.alloc {pr : Nat → Option Obj} (h : PrOK w00 pr w) (o : Obj) : PrOK w00 pr (w.alloc o) := fun j x hj => by
  obtain ⟨h1, h2, h3⟩ := h j x hj
  exact ⟨h1, h2, by rw [Go.RowKit.Below.heap_alloc _ _ _ (Array.getElem?_eq_some_iff.1 h3).1]; exact h3⟩
theorem Top.alloc (t : Top S0 w00 δ ds st A w E) (o : Obj) : Top S0 w00 δ ds st A (w.alloc o) E where
  rep := { t.rep.toRepH.grow o with env := t.rep.env, defers := t.rep.defers }
  hro := t.hro
  mle := t.mle
  pins := t.pins
  prot := t.prot.alloc o
  marks := t.marks
theorem getD_append_l {x y : Array Value} {i : Nat} (h : i < x.size) : (x ++ y).getD i undef = x.getD i undef := by
  rw [Array.getD_eq_getD_getElem?, Array.getD_eq_getD_getElem?, Array.getElem?_append_left h]
theorem getD_append_r {x y : Array Value} {n : Nat} (hx : x.size = n) (i : Nat) : (x ++ y).getD (i + n) undef = y.getD i undef := by
  rw [Array.getD_eq_getD_getElem?, Array.getD_eq_getD_getElem?, Array.getElem?_append_right (by omega), show i + n - x.size = i by omega]
theorem Rep.pop {x y : Array Value} {n : Nat} (h : Rep S w0 E st ⟨x ++ y, []⟩ w) (hx : x.size = n) : Rep S w0 E (popJ n st) ⟨y, []⟩ w :=
  { h.toRepH with
    env := fun i => (by
      have := h.env (i + n)
      rwa [show (⟨x ++ y, []⟩ : Act).tmps = x ++ y from rfl, getD_append_r hx] at this)
    defers := rfl }
theorem Rep.push {x y : Array Value} {n : Nat} {f : Nat → JV} (h : Rep S w0 E st ⟨y, []⟩ w) (hx : x.size = n) (hf : ∀ i, i < n → RV E st.H (f i) (x.getD i undef)) : Rep S w0 E ⟨fun i => cond (Nat.blt i n) (f i) (st.env (i - n)), st.H, st.nx⟩ ⟨x ++ y, []⟩ w :=
  { h.toRepH with
    env := fun i => (by
      show RV E st.H (cond (Nat.blt i n) (f i) (st.env (i - n))) ((x ++ y).getD i undef)
      cases hb : Nat.blt i n with
      | true =>
        rw [Nat.blt_eq] at hb
        rw [getD_append_l (by omega)]; exact hf i hb
      | false =>
        have hb : n ≤ i := by
          rcases Nat.lt_or_ge i n with h1 | h1
          · have h2 : Nat.blt i n = true := by rw [Nat.blt_eq]; exact h1
            rw [h2] at hb; cases hb
          · exact h1
        have := getD_append_r (y := y) hx (i - n)
        rw [Nat.sub_add_cancel hb] at this
        rw [this]; exact h.env (i - n))
    defers := rfl }
theorem setPs_ok : ∀ {ps : List Nat} {args : List JV} {us : List Value} {env : Nat → JV} {tm : Array Value} {n : Nat}, (∀ p ∈ ps, p < n) → tm.size = n → ps.length = args.length → RVL E H args us → (∀ i, i < n → RV E H (env i) (tm.getD i undef)) →
    ((ps.zip us).foldl (fun t p => t.setIfInBounds p.1 p.2) tm).size = n ∧ ∀ i, i < n → RV E H (setPs ps args env i) (((ps.zip us).foldl (fun t p => t.setIfInBounds p.1 p.2) tm).getD i undef)
  | [], args, us, env, tm, n, hp, hs, hl, hu, he => ⟨by simpa using hs, fun i hi => by simpa [setPs] using he i hi⟩
  | p :: ps, [], us, env, tm, n, hp, hs, hl, hu, he => by simp at hl
  | p :: ps, v :: args, us, env, tm, n, hp, hs, hl, hu, he => by
    obtain ⟨u, us', rfl, h1, h2⟩ := hu
    have hpn := hp p (by simp)
    refine setPs_ok (ps := ps) (args := args) (us := us') (env := upd env p v) (tm := tm.setIfInBounds p u) (fun q hq => hp q (by simp [hq])) (by simp [hs]) (by simpa using hl) h2 fun i hi => ?_
    by_cases hip : i = p
    · subst hip
      rw [upd_same]
      have : (tm.setIfInBounds i u).getD i undef = u := by
        rw [Array.getD_eq_getD_getElem?, Array.getElem?_setIfInBounds_self_of_lt (by omega)]; rfl
      rw [this]; exact h1
    · rw [upd_ne _ _ hip]
      have : (tm.setIfInBounds p u).getD i undef = tm.getD i undef := by
        rw [Array.getD_eq_getD_getElem?, Array.getElem?_setIfInBounds_ne (fun e => hip e.symm), ← Array.getD_eq_getD_getElem?]
      rw [this]; exact he i hi
end Go.Eng

namespace Go.Eng
variable {R : Type} {P : Program} {S S0 : Sc} {w0 w00 w w' : World} {E : En} {st : St} {A a : Act} {r : R} {H : Nat → Option JObj} {nx : Nat} {δ : Dx} {ds : List Deferred}
def codeOk (n : Nat) : Code → Bool
  | .region _ ops _ => ops.toList.all (operOk n)
  | .seq a b => codeOk n a && codeOk n b
  | .cond c a b => belowO n c && (codeOk n a && codeOk n b)
  | .block _ c | .loop c => codeOk n c
  | .rangeFunc f ps a b => belowO n f && (ps.toList.all (fun p => Nat.blt p n) && (codeOk n a && codeOk n b))
  | _ => true
structure Kx where
  kp : Nat → Option Obj
  os : List Nat
structure WfD (δ : Dx) (κ : Kx) : Prop where
  kp : ∀ k o, κ.kp k = some o → δ.pr k = some o
  os : ∀ k ∈ κ.os, δ.pr k ≠ none ∧ κ.kp k = none
  ab : ∀ l core, δ.ab = some (l, core) → l ∈ κ.os
def exA (δ : Dx) (a : Act) : Act := ⟨a.tmps ++ δ.sus, []⟩
def KOY (S0 : Sc) (w00 : World) (δ : Dx) (r : R) (K : KX R) (Q : Exit → Act → World → Prop) : Prop :=
  ∀ e st, K e st = some r → ∀ S w0 E a w, Cx S0 w00 δ a.defers S w0 → Rep S w0 E st (exA δ a) w → a.tmps.size = δ.n → Q (toX e) a w
def ABd (w00 : World) (δ : Dx) (κ : Kx) (ds : List Deferred) (w : World) : Prop :=
  ∃ l core, δ.ab = some (l, core) ∧ MarksWf δ.pr ds ∧ PrOK w00 (prM ds κ.kp) w ∧ core w
def ABO (w00 : World) (δ : Dx) (κ : Kx) (Q : Exit → Act → World → Prop) : Prop := ∀ a w, ABd w00 δ κ a.defers w → a.tmps.size = δ.n → Q .ret a w
def YO (S0 : Sc) (w00 : World) (P : Program) (r : R) (δ : Dx) (κ : Kx) (y : Yd R) (sh : Nat) : Prop :=
  ∀ args st Kres, y.run sh args st Kres = some r → ∀ S w0 E a w us, Cx S0 w00 δ a.defers S w0 → Rep S w0 E st (exA δ a) w → a.tmps.size = δ.n → RVL E st.H args us →
    ∃ l f tmps assign body, δ.pins y.gid = some l ∧ (Instr.yield l us.toArray).run P w = .ok (.round l f tmps assign body) w ∧
      RoundIn (wideR δ.ro) 0 P l f tmps assign body w fun e w' => ∃ b, e = .returned (.bool b) ∧
        (b = true → ∃ S' w0' E' st', Kres st' = some r ∧ Cx S0 w00 δ a.defers S' w0' ∧ Rep S' w0' E' st' (exA δ a) w') ∧ (b = false → ABd w00 δ κ a.defers w')
structure SubX (δ : Dx) (κ : Kx) (sh : Nat) (δ' : Dx) (κ' : Kx) (sh' : Nat) : Prop where
  n : δ'.n = δ.n
  sus : ∃ mid : Array Value, δ'.sus = mid ++ δ.sus ∧ sh' = mid.size + sh
  m : δ.m ≤ δ'.m
  pins : ∀ g l, δ.pins g = some l → δ'.pins g = some l
  pr : ∀ k o, δ.pr k = some o → δ'.pr k = some o
  ab : δ'.ab = δ.ab
  os : κ'.os = κ.os
def YH (S0 : Sc) (w00 : World) (P : Program) (r : R) (δ : Dx) (κ : Kx) (sh : Nat) : Option (Yd R) → Prop
  | none => True
  | some y => ∀ δ' κ' sh', SubX δ κ sh δ' κ' sh' → WfD δ' κ' → YO S0 w00 P r δ' κ' y sh'
def AS (w00 : World) (δ : Dx) : Prop := ∀ l core, δ.ab = some (l, core) → ∀ w k o o', w.heap[k]? = some o → NC o → w00.heap.size ≤ k → δ.pr k = none → core w → core (w.putObj k o')
theorem SubX.refl {κ : Kx} {sh : Nat} : SubX δ κ sh δ κ sh := ⟨rfl, ⟨#[], by simp, by simp⟩, Nat.le_refl _, fun _ _ h => h, fun _ _ h => h, rfl, rfl⟩
theorem SubX.trans {δ1 δ2 : Dx} {κ κ1 κ2 : Kx} {sh sh1 sh2 : Nat} (h : SubX δ κ sh δ1 κ1 sh1) (k : SubX δ1 κ1 sh1 δ2 κ2 sh2) : SubX δ κ sh δ2 κ2 sh2 := by
  obtain ⟨m1, e1, e2⟩ := h.sus
  obtain ⟨m2, e3, e4⟩ := k.sus
  exact ⟨k.n.trans h.n, ⟨m2 ++ m1, by rw [e3, e1, Array.append_assoc], by rw [e4, e2, Array.size_append]; omega⟩, Nat.le_trans h.m k.m, fun g l hg => k.pins g l (h.pins g l hg), fun x o hx => k.pr x o (h.pr x o hx), k.ab.trans h.ab, k.os.trans h.os⟩
theorem YH.sub {κ κ' : Kx} {sh sh' : Nat} {δ' : Dx} {Y : Option (Yd R)} (h : YH S0 w00 P r δ κ sh Y) (k : SubX δ κ sh δ' κ' sh') : YH S0 w00 P r δ' κ' sh' Y := by
  cases Y with
  | none => trivial
  | some y => exact fun δ2 κ2 sh2 hs hw => h δ2 κ2 sh2 (k.trans hs) hw
def LWI (F : Fence) (P : Program) (c : Code) (Q : Exit → Act → World → Prop) (a : Act) (w : World) : Prop :=
  ∀ (b : Frame) (k : List Item) (cs : List Frame), b.roundOf = F.round → F.fn b.fn → F.room (cs.length + 1 + 0) → ∃ e a' w', Q e a' w' ∧ ArrivesIn (Machine.fenced P F) P (lone (b.atR a (.inLoop c :: k)) cs w) b k cs e a' w'
section
variable {F : Fence} {Q : Exit → Act → World → Prop}
theorem roundI_from {c : Code} (h : c.wpIn F 0 P (Exit.then (LWI F P c Q) Q) a w) (b : Frame) (k : List Item) (cs : List Frame) (hro : b.roundOf = F.round) (hb : F.fn b.fn) (hr : F.room (cs.length + 1 + 0)) :
    ∃ e a' w', Q e a' w' ∧ ArrivesIn (Machine.fenced P F) P (lone (b.atR a (.code c :: .inLoop c :: k)) cs w) b k cs e a' w' := by
  obtain ⟨e, a₁, w₁, hq, harr⟩ := h b (.inLoop c :: k) cs hro hb hr
  cases e with
  | normal =>
    obtain ⟨e₂, a₂, w₂, hq₂, harr₂⟩ := hq b k cs hro hb hr
    exact ⟨e₂, a₂, w₂, hq₂, .of_steps harr harr₂⟩
  | exit id => exact ⟨_, a₁, w₁, hq, .pass (x := .inLoop c) rfl (fun _ _ => .inl (by simp)) harr⟩
  | goto l => exact ⟨_, a₁, w₁, hq, .pass (x := .inLoop c) rfl (fun _ _ => .inl (by simp)) harr⟩
  | ret => exact ⟨_, a₁, w₁, hq, .pass (x := .inLoop c) rfl (fun _ _ => .inl (by simp)) harr⟩
  | panic ch => exact ⟨_, a₁, w₁, hq, .pass (x := .inLoop c) rfl (fun _ _ => .inl (by simp)) harr⟩
  | outgrown => exact ⟨_, a₁, w₁, hq, .pass (x := .inLoop c) rfl (fun _ _ => .inl (by simp)) harr⟩
theorem loopI_of_round {c : Code} (h : c.wpIn F 0 P (Exit.then (LWI F P c Q) Q) a w) : (Code.loop c).wpIn F 0 P Q a w := fun b k cs hro hb hr =>
  let ⟨e, a', w', q, arr⟩ := roundI_from h b k cs hro hb hr
  ⟨e, a', w', q, .of_steps (.one (fenced_calm hb hr rfl) stepR_loop) arr⟩
theorem lwI_of_round {c : Code} (h : c.wpIn F 0 P (Exit.then (LWI F P c Q) Q) a w) : LWI F P c Q a w := fun b k cs hro hb hr =>
  let ⟨e, a', w', q, arr⟩ := roundI_from h b k cs hro hb hr
  ⟨e, a', w', q, .of_steps (.one (fenced_calm hb hr rfl) stepR_inLoop) arr⟩
end
theorem dst_le {n m : Nat} (h : n ≤ m) {l : List Oper} (k : l.all (operOk n) = true) : l.all (dstOk m) = true := by
  rw [List.all_eq_true] at k ⊢
  intro o ho
  have := k o ho
  simp only [operOk, Bool.and_eq_true] at this
  have h1 := dstOk_ok this.1
  unfold dstOk
  split
  · rename_i d hd
    rw [Nat.blt_eq]; exact Nat.lt_of_lt_of_le (h1 d hd) h
  · rfl
theorem ext_of {n : Nat} {sus : Array Value} (h : a.tmps.size = n) : Ext n sus a.defers ⟨a.tmps ++ sus, []⟩ a := ⟨rfl, h, rfl⟩
theorem act_of {n : Nat} {sus : Array Value} (h : Ext n sus ds A a) (hd : A.defers = []) : A = ⟨a.tmps ++ sus, []⟩ ∧ a.defers = ds := by
  obtain ⟨t, d⟩ := A
  have h1 : t = a.tmps ++ sus := h.tmps
  have h2 : d = [] := hd
  subst h1 h2
  exact ⟨rfl, by rw [h.defers]; rfl⟩
section
variable {C : CallJ R} {C' : CallJ PK} (hC : CallOK P C) (hN : CallNat C C') (hC' : CallOK P C') (hmo : P.follows .mixedOrders = true)
include hC hN hC' hmo
theorem regionY_ok {ro : Option Nat} {n id : Nat} {sus : Array Value} {ops : Array Oper} {draw : Bool} {K : St → Option R} {Q : Exit → Act → World → Prop} (hok : ops.toList.all (operOk n) = true)
    (hJ : cond draw (cond (calmB P ops.toList) (calmJ P C ops.toList ops.toList st K) (cond (briskB P ops.toList) (briskR P C ops.toList st K) (anyJ P C ops st K))) (opsJ P C ops ops.toList st K) = some r)
    (hR : Rep S w0 E st ⟨a.tmps ++ sus, []⟩ w) (hs : a.tmps.size = n)
    (hQ : ∀ E' st' a' w', K st' = some r → Rep S w0 E' st' ⟨a'.tmps ++ sus, []⟩ w' → a'.tmps.size = n → a'.defers = a.defers → Q .normal a' w') : (Code.region id ops draw).wpIn (wideR ro) 0 P Q a w := by
  have hsz : (a.tmps ++ sus).size = n + sus.size := by rw [Array.size_append, hs]
  have hdst := dst_le (m := n + sus.size) (Nat.le_add_right _ _) hok
  have hN0 : ∀ E' st' a' w', K st' = some r → Rep S w0 E' st' a' w' → a'.tmps.size = n + sus.size → onlyQ (fun A' w' => ∃ E' st', K st' = some r ∧ Rep S w0 E' st' A' w') .normal a' w' := fun E' st' a' w' h1 h2 _ => ⟨E', st', h1, h2⟩
  have fin : ∀ A' a' w', Ext n sus a.defers A' a' → (∃ E' st', K st' = some r ∧ Rep S w0 E' st' A' w') → Q .normal a' w' := fun A' a' w' h1 ⟨E', st', h2, h3⟩ => by
    obtain ⟨rfl, h4⟩ := act_of h1 h3.defers
    exact hQ E' st' a' w' h2 h3 h1.size h4
  cases draw with
  | true =>
    refine wpIn_region_any hmo (wpAny_tr hok fin (ext_of hs) ?_)
    cases hcalm : calmB P ops.toList with
    | true => rw [hcalm] at hJ; exact calm_core hN hC' hdst hN0 hcalm hJ hR hsz
    | false =>
      rw [hcalm] at hJ
      cases hb : briskB P ops.toList with
      | true => rw [hb] at hJ; exact brisk_core hN hC' hdst hN0 hb hJ hR hsz
      | false => rw [hb] at hJ; exact any_core hN hC' hC hdst hN0 hJ hR hsz
  | false =>
    refine wpIn_region_list ?_
    have := wpList_tr (ro := ro) (Q := Q) (rest := []) hok (ds := a.defers) fin hok (ext_of hs) (opsJ_ok hC hN0 hdst hR hsz hJ)
    rwa [List.append_nil] at this
omit hC hN hC' hmo in
theorem yieldP_inv {c1 c2 : Code} {u : YU} (h : yieldP (.seq c1 c2) = some u) : ∃ id ty ca, c1 = .region id u.all false ∧ c2 = .cond (.tmp u.t) .ret .skip ∧ u.all.toList = u.pre ++ [u.oc, u.on] ∧
    u.oc.op = .call ca ∧ ca.callee = .value u.x ∧ ca.args.toList = u.args ∧ u.oc.dst = some u.d ∧ u.oc.guard = none ∧ u.on.op = .unOp .not ty (.tmp u.d) ∧ u.on.dst = some u.t ∧ u.on.guard = none := by
  unfold yieldP at h
  split at h
  · rename_i id ops t heq
    cases heq
    unfold yieldR at h
    split at h
    · rename_i on oc pre hrev
      split at h
      · rename_i ty d' t' c d e1 e2 e3 e4 e5 e6
        split at h
        · rename_i x hx
          cases hc : Nat.beq t t' && Nat.beq d d' with
          | false => rw [hc] at h; cases h
          | true =>
            rw [hc] at h; cases h
            simp only [Bool.and_eq_true] at hc
            have h1 := Nat.eq_of_beq_eq_true hc.1
            have h2 := Nat.eq_of_beq_eq_true hc.2
            subst h1 h2
            refine ⟨id, ty, c, rfl, rfl, ?_, e4, hx, rfl, e5, e6, e1, e2, e3⟩
            have := congrArg List.reverse hrev
            rw [List.reverse_reverse] at this
            rw [this]; simp
        · cases h
      · cases h
    · cases h
  · cases h
end
end Go.Eng

namespace Go.Eng
variable {R : Type} {P : Program} {S S0 : Sc} {w0 w00 w w' : World} {E : En} {st : St} {A a : Act} {r : R} {δ : Dx} {κ : Kx} {ds : List Deferred}
theorem not_run {o : Oper} {ty : TypeId} {d : Nat} {ρ : Operand → Value} {b : Bool} (h : o.op = .unOp .not ty (.tmp d)) (hv : ρ (.tmp d) = .bool b) : (execOp ρ o).run P w = .ok (.value (.bool !b)) w := by
  obtain ⟨dst, op, type, pos, after, guard⟩ := o
  subst h
  simp only [execOp, hv]; rfl
theorem call_run {o : Oper} {c : Call} {x : Operand} {ρ : Operand → Value} {l : Nat} (h : o.op = .call c) (hc : c.callee = .value x) (hv : ρ x = .func (.yield l) #[] #[]) : (execOp ρ o).run P w = (Instr.yield l (c.args.map ρ)).run P w := by
  obtain ⟨dst, op, type, pos, after, guard⟩ := o
  subst h
  simp only [execOp, resolve, hc, Deferred.ofValue, hv, Sem.run_bind, Sem.run_pure, Result.andThen_ok, invoke, Array.empty_append]
theorem put_defers (a : Act) (d : Option Nat) (v : Value) : (a.put d v).defers = a.defers := by cases d <;> rfl
theorem put_get {a : Act} {d : Nat} (h : d < a.tmps.size) (v : Value) : (a.put (some d) v).eval (.tmp d) = v := by
  show (a.tmps.setIfInBounds d v).getD d undef = v
  rw [Array.getD_eq_getD_getElem?, Array.getElem?_setIfInBounds_self_of_lt h]; rfl
theorem exA_put {d : Option Nat} {v : Value} (hs : a.tmps.size = δ.n) (hd : ∀ t, d = some t → t < δ.n) : exA δ (a.put d v) = (exA δ a).put d v := by
  have h := (ext_of (sus := δ.sus) hs).put hd v
  have := act_of h (by rw [put_defers])
  exact this.1.symm
section
variable {C : CallJ R} {C' : CallJ PK} (hC : CallOK P C)
include hC
theorem yieldY_ok {sh : Nat} {c1 c2 : Code} {u : YU} {y : Yd R} {K : KX R} {Q : Exit → Act → World → Prop} (hok : codeOk δ.n (.seq c1 c2) = true) (hu : yieldP (.seq c1 c2) = some u)
    (hY : YH S0 w00 P r δ κ sh (some y)) (hwf : WfD δ κ) (hQ : KOY S0 w00 δ r K Q) (hAB : ABO w00 δ κ Q) (hJ : yieldJ P C y sh u st K = some r)
    (c : Cx S0 w00 δ a.defers S w0) (hR : Rep S w0 E st (exA δ a) w) (hs : a.tmps.size = δ.n) : (Code.seq c1 c2).wpIn (wideR δ.ro) 0 P Q a w := by
  obtain ⟨id, ty, ca, rfl, rfl, htl, h1, h2, h3, h4, h5, h6, h7, h8⟩ := yieldP_inv hu
  simp only [codeOk, Bool.and_eq_true] at hok
  obtain ⟨hops, ht, _⟩ := hok
  have ht : u.t < δ.n := by simpa [belowO] using ht
  have hops' := hops
  rw [htl, List.all_append, Bool.and_eq_true] at hops
  obtain ⟨hpre, hrest⟩ := hops
  simp only [List.all_cons, List.all_nil, Bool.and_true, Bool.and_eq_true] at hrest
  obtain ⟨hoc, hon⟩ := hrest
  have hd : u.d < δ.n := dstOk_ok (by simp only [operOk, Bool.and_eq_true] at hoc; exact hoc.1) u.d h4
  have hsz : (exA δ a).tmps.size = δ.n + δ.sus.size := by show (a.tmps ++ δ.sus).size = _; rw [Array.size_append, hs]
  have want : ∀ o : Oper, o.guard = none → ∀ f, Region.wanted o f = true := fun o h f => by simp [Region.wanted, h]
  refine wpIn_seq (wpIn_region_list ?_)
  rw [htl]
  unfold yieldJ at hJ
  refine wpList_tr (ds := a.defers) (N := fun A' w' => ∃ E' st', (match opndJ st' u.x with
    | .fn g [.ptr id o] => cond (Nat.beq g YG && (Nat.beq id y.gid && (Nat.beq o 0 && boxB (st'.H id)))) (y.run sh (u.args.map (opndJ st')) st' fun st' => opsJ P C u.all [u.on] (st'.set (some u.d) (.bool true)) fun st2 => cond (isFalse (st2.env u.t)) (K .normal st2) none) none
    | _ => none) = some r ∧ Rep S w0 E' st' A' w') hops' ?_ hpre (ext_of hs) (opsJ_ok hC (fun E' st' a' w' h1 h2 _ => ⟨E', st', h1, h2⟩) (dst_le (Nat.le_add_right _ _) hpre) hR hsz hJ)
  rintro A' a' w' hext ⟨E1, st1, hK, hR1⟩
  obtain ⟨hA, hdef⟩ := act_of hext hR1.defers
  split at hK
  · rename_i g id0 o0 hx
    cases hcond : (Nat.beq g YG && (Nat.beq id0 y.gid && (Nat.beq o0 0 && boxB (st1.H id0)))) with
    | false => rw [hcond] at hK; cases hK
    | true =>
      rw [hcond] at hK; simp only [cond_true] at hK
      simp only [Bool.and_eq_true] at hcond
      obtain ⟨g1, g2, g3, g4⟩ := hcond
      have g1 := Nat.eq_of_beq_eq_true g1
      have g2 := Nat.eq_of_beq_eq_true g2
      have g3 := Nat.eq_of_beq_eq_true g3
      subst g1 g2 g3
      have hR1' : Rep S w0 E1 st1 (exA δ a') w' := by rw [hA] at hR1; exact hR1
      have c' : Cx S0 w00 δ a'.defers S w0 := by rw [hdef]; exact c
      obtain ⟨l, f, tmps, asg, bdy, q1, q2, q3⟩ := hY δ κ sh .refl hwf _ _ _ hK S w0 E1 a' w' _ c' hR1' hext.size (opnds_ok hR1' u.args)
      -- the value that is called
      have hv : A'.eval u.x = .func (.yield l) #[] #[] := by
        have := opnd_ok hR1 u.x
        rw [hx] at this
        obtain ⟨cs, e1, v, b, e2, _, ⟨hlt, v', e3, _, hp⟩, e4⟩ := this
        simp only [RVl] at e4; subst e4
        cases e3
        have hbox : shp (st1.H y.gid) = .box := by
          cases hh : st1.H y.gid with
          | none => rw [hh] at g4; cases g4
          | some o => cases o with
            | box cs rw => rfl
            | row e l rw => rw [hh] at g4; cases g4
        have hp := hp hbox
        obtain ⟨p1, p2⟩ := c.pins y.gid l q1
        have hpin := hR1.pin y.gid (by rw [c.m]; exact p1)
        rw [hpin, p2] at hp
        have e1 : A'.eval u.x = fnV YG cs := by simpa using e1
        rw [e1, fnV, if_pos rfl, e2, hp]
      have hrun : (execOp A'.eval u.oc).run P w' = .ok (.round l f tmps asg bdy) w' := by
        rw [call_run h1 h2 hv]
        have : ca.args.map A'.eval = (u.args.map (exA δ a').eval).toArray := by apply Array.ext'; rw [Array.toList_map, h3, hA]; rfl
        rw [this]; exact q2
      show (if _ then _ else _)
      rw [if_pos (want _ h5 _)]
      refine ⟨fun _ _ => trivial, ?_⟩
      have e : u.oc.semAt (wideR δ.ro).round a'.eval = execOp A'.eval u.oc := exec_ext hext hoc δ.ro
      rw [e, hrun, Oper.uponIn_round]
      refine ⟨fun hx => by simp [wideR, Fence.wide] at hx, RoundIn.mono q3 ?_⟩
      rintro e2 w2 ⟨b, rfl, hb1, hb2⟩
      show wpListIn (wideR δ.ro) 0 P u.all _ [u.on] (a'.put u.oc.dst (.bool b)) w2
      rw [h4]
      have hdd : ∀ t, (some u.d : Option Nat) = some t → t < δ.n := fun t e => by cases e; exact hd
      have hsz2 : (a'.put (some u.d) (.bool b)).tmps.size = δ.n := by rw [put_size]; exact hext.size
      cases b with
      | true =>
        obtain ⟨S', w0', E', st', k1, k2, k3⟩ := hb1 rfl
        have k4 : Rep S' w0' E' (st'.set (some u.d) (.bool true)) (exA δ (a'.put (some u.d) (.bool true))) w2 := by
          rw [exA_put hext.size hdd]
          exact k3.put rfl (fun d e => by show d < (a'.tmps ++ δ.sus).size; rw [Array.size_append, hext.size]; have := hdd d e; omega)
        have hsz3 : (exA δ (a'.put (some u.d) (.bool true))).tmps.size = δ.n + δ.sus.size := by show ((a'.put (some u.d) (.bool true)).tmps ++ δ.sus).size = _; rw [Array.size_append, hsz2]
        have hon' : [u.on].all (operOk δ.n) = true := by simp [hon]
        have := wpList_tr (ro := δ.ro) (Q := Exit.then ((Code.cond (.tmp u.t) .ret .skip).wpIn (wideR δ.ro) 0 P Q) Q) (rest := []) hops' (ds := (a'.put (some u.d) (.bool true)).defers)
          (N := fun A' w' => ∃ E' st2, cond (isFalse (st2.env u.t)) (K .normal st2) none = some r ∧ Rep S' w0' E' st2 A' w') ?_ hon' (ext_of hsz2) (opsJ_ok hC (fun E' st' a' w' h1 h2 _ => ⟨E', st', h1, h2⟩) (dst_le (Nat.le_add_right _ _) hon') k4 hsz3 k1)
        · rwa [List.append_nil] at this
        · rintro A3 a3 w3 hext3 ⟨E3, st3, k5, k6⟩
          obtain ⟨rfl, k7⟩ := act_of hext3 k6.defers
          cases hf : isFalse (st3.env u.t) with
          | false => rw [hf] at k5; cases k5
          | true =>
            rw [hf] at k5; simp only [cond_true] at k5
            have hval : st3.env u.t = .bool false := by
              unfold isFalse at hf
              split at hf
              · rename_i b hb; rw [hb]; cases b
                · rfl
                · cases hf
              · cases hf
            have h9 := k6.env u.t
            rw [hval] at h9
            have h9 := RV_bool h9
            have h10 : (a3.tmps ++ δ.sus).getD u.t undef = .bool false := h9
            rw [getD_append_l (by rw [hext3.size]; exact ht)] at h10
            show (Code.cond (.tmp u.t) .ret .skip).wpIn (wideR δ.ro) 0 P Q a3 w3
            refine wpIn_cond (t := false) h10 ?_
            refine wpIn_skip (hQ .normal st3 k5 S' w0' E3 a3 w3 ?_ k6 hext3.size)
            rw [k7, put_defers]; exact k2
      | false =>
        have k1 := hb2 rfl
        show (if _ then _ else _)
        rw [if_pos (want _ h8 _)]
        refine ⟨fun _ _ => trivial, ?_⟩
        have e3 : u.on.semAt (wideR δ.ro).round (a'.put (some u.d) (.bool false)).eval = execOp (a'.put (some u.d) (.bool false)).eval u.on := Oper.semAt_eq _ _ _ (fun c e => by rw [e] at h6; cases h6)
        rw [e3, not_run h6 (put_get (by rw [hext.size]; exact hd) _)]
        show (Code.cond (.tmp u.t) .ret .skip).wpIn (wideR δ.ro) 0 P Q ((a'.put (some u.d) (.bool false)).put u.on.dst (.bool true)) w2
        rw [h7]
        refine wpIn_cond (t := true) (put_get (by rw [hsz2]; exact ht) _) ?_
        refine wpIn_ret (hAB _ _ ?_ (by rw [put_size]; exact hsz2))
        rw [put_defers, put_defers]; exact k1
  · cases hK
end
end Go.Eng

namespace Go.Eng
variable {R : Type} {P : Program} {S S0 : Sc} {w0 w00 w w' : World} {E : En} {st : St} {A a : Act} {r : R} {δ : Dx} {κ : Kx} {ds : List Deferred}
def jumpOf : JX → Option Code
  | .normal => none
  | .exit id => some (.exit id)
  | .ret => some .ret
def mkL (fn D : Nat) (tm : Array Value) (ps : Array Nat) (assign body : Code) (s : LoopState) (p : Option Code) : Loop := { state := s, pending := p, fn, tmps := tm, params := ps, assign, body, defers := D }
theorem nc_loop (l : Loop) : NC (.loop l) := fun _ _ _ h => by cases h
theorem nc_def (d : Option (List Deferred)) : NC (.deferred d) := fun _ _ _ h => by cases h
theorem prM_of {pr : Nat → Option Obj} {k : Nat} {o : Obj} (h : MarksWf pr ds) (hk : pr k = some o) : prM ds pr k = some o := by
  unfold prM
  rw [if_neg fun hm => by rw [h.apart k hm] at hk; cases hk]; exact hk
theorem prM_le {pr pr' : Nat → Option Obj} (h : ∀ k o, pr k = some o → pr' k = some o) {k : Nat} {o : Obj} (hk : prM ds pr k = some o) : prM ds pr' k = some o := by
  unfold prM at hk ⊢
  split
  · rename_i h1; rw [if_pos h1] at hk; exact hk
  · rename_i h1; rw [if_neg h1] at hk; exact h k o hk
theorem not_mark {pr : Nat → Option Obj} {k : Nat} {o : Obj} (h : MarksWf pr ds) (hk : pr k = some o) : k ∉ markIds ds := fun hm => by rw [h.apart k hm] at hk; cases hk
theorem marks_nil {pr : Nat → Option Obj} : MarksWf pr [] := ⟨fun d h => (List.not_mem_nil h).elim, List.nodup_nil, fun k h => (List.not_mem_nil h).elim⟩
theorem prM_nil {pr : Nat → Option Obj} : prM [] pr = pr := by funext k; unfold prM; rw [if_neg (by simp [markIds])]
theorem Top.swap {δ2 : Dx} (t : Top S0 w00 δ ds st A w E) {l : Nat} {o o' : Obj} (hl : δ.pr l = some o) (hn : NC o') (hm : δ2.m = δ.m) (hpi : δ2.pins = δ.pins) (hpr : δ2.pr = upd δ.pr l (some o')) : Top S0 w00 δ2 ds st A (w.putObj l o') E where
  rep := { t.rep.toRepH.ncput (t.prot l o (prM_of t.marks hl)).2.2 (t.prot l o (prM_of t.marks hl)).1 (t.prot l o (prM_of t.marks hl)).2.1 o' with env := t.rep.env, defers := t.rep.defers }
  hro := t.hro
  mle := by rw [hm]; exact t.mle
  pins := by rw [hm, hpi]; exact t.pins
  prot k x hk := by
    obtain ⟨h1, h2, h3⟩ := t.prot l o (prM_of t.marks hl)
    by_cases e : k = l
    · subst e
      rw [hpr] at hk; unfold prM at hk
      rw [if_neg (not_mark t.marks hl), upd_same] at hk
      cases hk
      exact ⟨hn, h2, World.putObj_heap_same (Array.getElem?_eq_some_iff.1 h3).1⟩
    · have : prM ds δ.pr k = some x := by
        rw [hpr] at hk; unfold prM at hk ⊢
        rwa [upd_ne _ _ e] at hk
      obtain ⟨g1, g2, g3⟩ := t.prot k x this
      exact ⟨g1, g2, by rw [World.putObj_heap_other e]; exact g3⟩
  marks := ⟨t.marks.form, t.marks.nodup, fun k hk => by
    rw [hpr, upd_ne _ _ (fun e => by subst e; exact not_mark t.marks hl hk)]; exact t.marks.apart k hk⟩
def Snd (S0 : Sc) (w00 : World) (P : Program) (r : R) (n sh : Nat) (Y : Option (Yd R)) (c : Code) (ev : St → KX R → Option R) : Prop :=
  ∀ (δ : Dx) (κ : Kx) (K : KX R) (Q : Exit → Act → World → Prop) (st : St), δ.n = n → S0.m ≤ δ.m → WfD δ κ → KOY S0 w00 δ r K Q → YH S0 w00 P r δ κ sh Y → AS w00 δ → ABO w00 δ κ Q → ev st K = some r →
    ∀ S w0 E a w, Cx S0 w00 δ a.defers S w0 → Rep S w0 E st (exA δ a) w → a.tmps.size = δ.n → c.wpIn (wideR δ.ro) 0 P Q a w
def coreY (S0 : Sc) (w00 : World) (r : R) (δ : Dx) (κ : Kx) (ds1 : List Deferred) (tm : Array Value) (K : KX R) (l : Nat) (done : Code → Obj) (w : World) : Prop :=
  (∃ e jump st' E', jumpOf e = some jump ∧ w.heap[l]? = some (done jump) ∧ K e st' = some r ∧ Top S0 w00 δ ds1 st' ⟨tm ++ δ.sus, []⟩ w E') ∨ (w.heap[l]? = some (done .ret) ∧ ABd w00 δ κ ds1 w)
def itD (δ : Dx) (ds1 : List Deferred) (tm : Array Value) (g : Rg) (l : Nat) (rec : Loop) (core : World → Prop) : Dx :=
  ⟨none, g.nt, tm ++ δ.sus, g.gid + 1, upd δ.pins g.gid (some l), upd (prM ds1 δ.pr) l (some (.loop rec)), some (l, core)⟩
def itK (κ : Kx) (l : Nat) : Kx := ⟨fun _ => none, l :: κ.os⟩
def asD (δ' : Dx) (n l : Nat) (tm' : Array Value) (ds' : List Deferred) : Dx := ⟨some l, n, tm' ++ δ'.sus, δ'.m, δ'.pins, prM ds' δ'.pr, none⟩
def bdD (δ δ' : Dx) (n l : Nat) (tm' : Array Value) (ds' : List Deferred) (rec : Loop) : Dx := ⟨some l, n, tm' ++ δ'.sus, δ'.m, δ'.pins, upd (prM ds' δ'.pr) l (some (.loop rec)), δ.ab⟩
def bdK (κ κ' : Kx) (l : Nat) (ds1 ds' : List Deferred) (rec : Loop) : Kx :=
  ⟨fun k => if k = l then some (.loop rec) else match prM ds' κ'.kp k with
    | some o => some o
    | none => prM ds1 κ.kp k, κ.os⟩
structure RX (S0 : Sc) (w00 : World) (δ : Dx) (κ : Kx) (ds1 : List Deferred) (tm : Array Value) (g : Rg) (l : Nat) : Prop where
  hm : S0.m ≤ δ.m
  mg : δ.m ≤ g.gid
  pins : ∀ g' l', δ.pins g' = some l' → g' < δ.m
  fresh : prM ds1 δ.pr l = none
  marks : MarksWf δ.pr ds1
  tm : tm.size = δ.n
  wf : WfD δ κ
  lge : w00.heap.size ≤ l
theorem pr_up {ds1 : List Deferred} {tm : Array Value} {g : Rg} {l : Nat} {rec : Loop} {core : World → Prop} {δ' : Dx} {κ' : Kx} {sh' : Nat} (x : RX S0 w00 δ κ ds1 tm g l) (hsub : SubX (itD δ ds1 tm g l rec core) (itK κ l) 0 δ' κ' sh') {k : Nat} {o : Obj} (hk : prM ds1 δ.pr k = some o) : k ≠ l ∧ δ'.pr k = some o := by
  have hne : k ≠ l := fun e => by subst e; rw [x.fresh] at hk; cases hk
  exact ⟨hne, hsub.pr k o (by show upd _ l _ k = _; rw [upd_ne _ _ hne]; exact hk)⟩
theorem Top.down {ds1 : List Deferred} {tm x3 : Array Value} {g : Rg} {l : Nat} {rec : Loop} {core : World → Prop} {δ' δ2 : Dx} {κ' : Kx} {sh' j : Nat} {ds2 : List Deferred} (x : RX S0 w00 δ κ ds1 tm g l) (hsub : SubX (itD δ ds1 tm g l rec core) (itK κ l) 0 δ' κ' sh')
    (t : Top S0 w00 δ2 ds2 st ⟨x3 ++ (tm ++ δ.sus), []⟩ w E) (hj : x3.size = j) (hm2 : δ2.m = δ'.m) (hp2 : δ2.pins = δ'.pins) (hpr : ∀ k o, k ≠ l → δ'.pr k = some o → δ2.pr k = some o) {o1 : Obj} (hl : δ2.pr l = some o1) (o2 : Obj) :
    Top S0 w00 δ ds1 (popJ j st) ⟨tm ++ δ.sus, []⟩ (w.putObj l o2) E where
  rep := by
    obtain ⟨h1, h2, h3⟩ := t.prot l o1 (prM_of t.marks hl)
    exact Rep.pop { t.rep.toRepH.ncput h3 h1 h2 o2 with env := t.rep.env, defers := rfl } hj
  hro := t.hro
  mle := by
    have h1 := t.mle
    have h2 : g.gid + 1 ≤ δ'.m := hsub.m
    have h3 := x.mg
    rw [hm2] at h1
    show δ.m ≤ st.nx
    omega
  pins g' l' hg := by
    have h1 := x.pins g' l' hg
    have h2 := x.mg
    refine ⟨h1, ?_⟩
    have : δ'.pins g' = some l' := hsub.pins g' l' (by show upd δ.pins g.gid _ g' = _; rw [upd_ne _ _ (by omega)]; exact hg)
    rw [← hp2] at this
    exact (t.pins g' l' this).2
  prot k o hk := by
    obtain ⟨h1, h2⟩ := pr_up x hsub hk
    obtain ⟨g1, g2, g3⟩ := t.prot k o (prM_of t.marks (hpr k o h1 h2))
    exact ⟨g1, g2, by rw [World.putObj_heap_other h1]; exact g3⟩
  marks := x.marks
theorem RVL_length {E : En} {H : Nat → Option JObj} : ∀ {vs : List JV} {us : List Value}, RVL E H vs us → us.length = vs.length
  | [], _, h => by simp only [RVL] at h; subst h; rfl
  | _ :: _, _, ⟨_, _, e, _, h⟩ => by subst e; simp [RVL_length h]
theorem lvl_RVL {E : En} {H : Nat → Option JObj} {I : Option Bool → Nat → Option (Array Value)} (h : Lvl E I) : ∀ {vs : List JV} {us : List Value}, RVL E H vs us → RVL (E.wim I) H vs us
  | [], _, k => k
  | _ :: _, _, ⟨x, y, e, h1, h2⟩ => ⟨x, y, e, lvl_RV h h1, lvl_RVL h h2⟩
theorem fold_zip (ps : Array Nat) (us : List Value) (tm : Array Value) : (ps.zip us.toArray).foldl (fun t (p : Nat × Value) => t.setIfInBounds p.1 p.2) tm = (ps.toList.zip us).foldl (fun t p => t.setIfInBounds p.1 p.2) tm := by
  rw [← Array.foldl_toList, Array.toList_zip]
section
variable {C : CallJ R} {Y : Option (Yd R)} {sh off : Nat} {g : Rg} {ps : Array Nat} {assign body : Code} {K : KX R} {l fn D : Nat} {ds1 : List Deferred} {tm : Array Value} {n : Nat}
theorem roundX_ok (x : RX S0 w00 δ κ ds1 tm g l) (hn : δ.n = n) (hps : ∀ p ∈ ps.toList, p < n) (hYH : YH S0 w00 P r δ κ sh Y) (hAS : AS w00 δ)
    (hA : Snd S0 w00 P r n 0 none assign (codeY1 P C S0.m (fun _ _ => none) (fun _ => none) (fun _ _ _ _ _ _ => none) none 0 n off assign))
    (hB : ∀ sh', Snd S0 w00 P r n sh' Y body (codeY1 P C S0.m (fun _ _ => none) (fun _ => none) (fun _ _ _ _ _ _ => none) Y sh' n off body)) :
    YH S0 w00 P r (itD δ ds1 tm g l (mkL fn D tm ps assign body .ready none) (coreY S0 w00 r δ κ ds1 tm K l fun c => .loop (mkL fn D tm ps assign body .done (some c)))) (itK κ l) 0 (some (recY P C S0.m Y sh n off g ps assign body K)) := by
  intro δ' κ' sh' hsub hwf' args st1 Kres hrun S w0 E a' w' us hc hR hs' hus
  simp only [recY] at hrun
  cases hcond : (okJ S0.m st1 && Nat.beq args.length ps.size) with
  | false => rw [hcond] at hrun; cases hrun
  | true =>
  rw [hcond] at hrun; simp only [cond_true] at hrun
  rw [Bool.and_eq_true] at hcond
  have hlen := Nat.eq_of_beq_eq_true hcond.2
  obtain ⟨mid, hsus, hsh⟩ := hsub.sus
  have hsus : δ'.sus = mid ++ (tm ++ δ.sus) := hsus
  have hn' : δ'.n = g.nt := hsub.n
  have hgm : g.gid + 1 ≤ δ'.m := hsub.m
  have hm' : S0.m ≤ δ'.m := by have := x.hm; have := x.mg; omega
  have t5 := hc.leave hR (ok_ro hcond.1 hR.fresh)
  have hpl : δ'.pr l = some (.loop (mkL fn D tm ps assign body .ready none)) := hsub.pr l _ (upd_same _ _ _)
  have hab : δ'.ab = some (l, _) := hsub.ab
  have hos : κ'.os = l :: κ.os := hsub.os
  have hl := (t5.prot l _ (prM_of hc.marks hpl)).2.2
  have hul := RVL_length hus
  refine ⟨l, fn, _, assign, body, hsub.pins g.gid l (upd_same _ _ _), run_yield hl (by show us.toArray.size = ps.size; simp; omega), ?_⟩
  refine roundIn_of_wpIn (F := wideR δ'.ro) trivial ?_
  show assign.wpIn (wideR (some l)) 0 P _ { tmps := (ps.zip us.toArray).foldl _ tm, defers := [] } w'
  have ebody : ∀ i, i < n → RV (E.wim (keepIm E st1.H)) st1.H (st1.env (i + (g.nt + sh'))) (tm.getD i undef) := fun i hi => by
    have := t5.rep.env (i + (g.nt + sh'))
    have e : (exA δ' a').tmps = (a'.tmps ++ mid) ++ (tm ++ δ.sus) := by show a'.tmps ++ δ'.sus = _; rw [hsus, Array.append_assoc]
    rw [e, getD_append_r (by rw [Array.size_append, hs', hn', hsh]; rfl), getD_append_l (by rw [x.tm, hn]; exact hi)] at this
    exact this
  obtain ⟨hsz, henv⟩ := setPs_ok (E := E.wim (keepIm E st1.H)) (H := st1.H) hps (by rw [x.tm, hn]) (by rw [Array.length_toList]; omega) (lvl_RVL keepIm_lvl hus) ebody
  rw [← fold_zip] at hsz henv
  have t6 : Top S0 w00 (asD δ' n l a'.tmps a'.defers) [] (bodyJ n (g.nt + sh') ps.toList args st1) (exA (asD δ' n l a'.tmps a'.defers) ⟨(ps.zip us.toArray).foldl (fun t (p : Nat × Value) => t.setIfInBounds p.1 p.2) tm, []⟩) w' (E.wim (keepIm E st1.H)) :=
    { rep := t5.rep.push hsz henv
      hro := t5.hro
      mle := t5.mle
      pins := t5.pins
      prot := by rw [prM_nil]; exact t5.prot
      marks := marks_nil }
  obtain ⟨c6, r6⟩ := t6.enter hm'
  refine hA (asD δ' n l a'.tmps a'.defers) ⟨fun _ => none, []⟩ _ _ _ rfl hm' ⟨fun k o h => (by cases h), fun k h => (List.not_mem_nil h).elim, fun l core h => (by cases h)⟩ ?_ trivial (fun l core h => (by cases h)) (fun a w ⟨_, _, h, _⟩ => by cases h) hrun _ _ _ _ _ c6 r6 hsz
  -- behind the assignment
  intro e st2 hK S2 w02 E2 a1 w1 hc1 hR1 hs1
  cases e with
  | exit id => cases hK
  | ret => cases hK
  | normal =>
  simp only [onlyN] at hK
  cases hok2 : okJ S0.m st2 with
  | false => rw [hok2] at hK; cases hK
  | true =>
  rw [hok2] at hK; simp only [cond_true] at hK
  have t7 := hc1.leave hR1 (ok_ro hok2 hR1.fresh)
  have hpa : (asD δ' n l a'.tmps a'.defers).pr l = some (.loop (mkL fn D tm ps assign body .ready none)) := prM_of hc.marks hpl
  have hl1 := (t7.prot l _ (prM_of t7.marks hpa)).2.2
  refine ⟨_, run_beginRound hl1 rfl, ?_⟩
  have t8 : Top S0 w00 (bdD δ δ' n l a'.tmps a'.defers (mkL fn D tm ps assign body .busy none)) a1.defers st2 (exA (bdD δ δ' n l a'.tmps a'.defers (mkL fn D tm ps assign body .busy none)) a1) (w1.putObj l (.loop (mkL fn D tm ps assign body .busy none))) _ := t7.swap hpa (nc_loop _) rfl rfl rfl
  obtain ⟨c8, r8⟩ := t8.enter hm'
  have hpb : (bdD δ δ' n l a'.tmps a'.defers (mkL fn D tm ps assign body .busy none)).pr l = some (.loop (mkL fn D tm ps assign body .busy none)) := upd_same _ _ _
  have hprb : ∀ k o, k ≠ l → δ'.pr k = some o → (bdD δ δ' n l a'.tmps a'.defers (mkL fn D tm ps assign body .busy none)).pr k = some o := fun k o hk h => by
    show upd _ l _ k = _
    rw [upd_ne _ _ hk]; exact prM_of hc.marks h
  have hup : ∀ k o, δ.pr k = some o → k ≠ l ∧ δ'.pr k = some o := fun k o hk => pr_up x hsub (prM_of x.marks hk)
  -- the facts that stay while the rest is left
  have hkp : ∀ {w3 : World} {ds3 : List Deferred} {o4 : Obj}, PrOK w00 (prM ds3 (bdD δ δ' n l a'.tmps a'.defers (mkL fn D tm ps assign body .busy none)).pr) w3 → MarksWf (bdD δ δ' n l a'.tmps a'.defers (mkL fn D tm ps assign body .busy none)).pr ds3 → PrOK w00 (prM a'.defers κ'.kp) (w3.putObj l o4) := fun {w3 ds3 o4} hp hmk k o hk => by
    have hkl : κ'.kp l = none := (hwf'.os l (by rw [hos]; exact List.mem_cons_self)).2
    have hne : k ≠ l := fun e => by
      subst e
      unfold prM at hk
      rw [if_neg (not_mark hc.marks hpl), hkl] at hk; cases hk
    have h1 : (bdD δ δ' n l a'.tmps a'.defers (mkL fn D tm ps assign body .busy none)).pr k = some o := by
      show upd _ l _ k = _
      rw [upd_ne _ _ hne]; exact prM_le hwf'.kp hk
    obtain ⟨g1, g2, g3⟩ := hp k o (prM_of hmk h1)
    exact ⟨g1, g2, by rw [World.putObj_heap_other hne]; exact g3⟩
  refine hB _ (bdD δ δ' n l a'.tmps a'.defers (mkL fn D tm ps assign body .busy none)) (bdK κ κ' l ds1 a'.defers (mkL fn D tm ps assign body .busy none)) _ _ _ rfl hm' ?_ ?_ ?_ ?_ ?_ hK _ _ _ _ _ c8 r8 hs1
  · -- well formed
    refine ⟨fun k o hk => ?_, fun k hk => ?_, fun l0 core hl0 => x.wf.ab l0 core hl0⟩
    · simp only [bdK] at hk
      by_cases e : k = l
      · subst e; rw [if_pos rfl] at hk; rw [hpb]; exact hk
      · rw [if_neg e] at hk
        split at hk
        · rename_i o' ho'
          cases hk
          show upd _ l _ k = _
          rw [upd_ne _ _ e]; exact prM_le hwf'.kp ho'
        · exact hprb k o e (pr_up x hsub (prM_le x.wf.kp hk)).2
    · obtain ⟨h1, h2⟩ := x.wf.os k hk
      cases hp : δ.pr k with
      | none => exact (h1 hp).elim
      | some o =>
        obtain ⟨h3, h4⟩ := hup k o hp
        refine ⟨by rw [hprb k o h3 h4]; simp, ?_⟩
        simp only [bdK]
        rw [if_neg h3]
        have h5 : κ'.kp k = none := (hwf'.os k (by rw [hos]; exact List.mem_cons_of_mem _ hk)).2
        have h6 : prM a'.defers κ'.kp k = none := by unfold prM; rw [if_neg (not_mark hc.marks h4)]; exact h5
        rw [h6]
        unfold prM; rw [if_neg (not_mark x.marks hp)]; exact h2
  · -- behind the round
    intro e st3 hK3 S3 w03 E3 a3 w3 hc3 hR3 hs3
    unfold roundK at hK3
    cases hok3 : okJ S0.m st3 with
    | false => rw [hok3] at hK3; cases hK3
    | true =>
    rw [hok3] at hK3; simp only [cond_true] at hK3
    have t9 := hc3.leave hR3 (ok_ro hok3 hR3.fresh)
    have hp9 := t9.prot l _ (prM_of t9.marks hpb)
    have hl3 := hp9.2.2
    have t9' : Top S0 w00 (bdD δ δ' n l a'.tmps a'.defers (mkL fn D tm ps assign body .busy none)) a3.defers st3 ⟨(a3.tmps ++ a'.tmps ++ mid) ++ (tm ++ δ.sus), []⟩ w3 (E3.wim (keepIm E3 st3.H)) := by
      have e : exA (bdD δ δ' n l a'.tmps a'.defers (mkL fn D tm ps assign body .busy none)) a3 = ⟨(a3.tmps ++ a'.tmps ++ mid) ++ (tm ++ δ.sus), []⟩ := by
        show (⟨a3.tmps ++ (a'.tmps ++ δ'.sus), []⟩ : Act) = _
        rw [hsus]; simp only [Array.append_assoc]
      rw [← e]; exact t9
    have hj : (a3.tmps ++ a'.tmps ++ mid).size = n + (g.nt + sh') := by
      have h1 : a3.tmps.size = n := hs3
      rw [Array.size_append, Array.size_append, h1, hs', hn', hsh]
      show n + g.nt + mid.size = n + (g.nt + (mid.size + 0))
      omega
    have left : ∀ e jump, jumpOf e = some jump → K e (popJ (n + (g.nt + sh')) st3) = some r → ∃ v w', (Instr.endRound l (some jump)).run P w3 = .ok v w' ∧ ∃ b, Ending.returned v = .returned (.bool b) ∧
        (b = true → ∃ S' w0' E' st', Kres st' = some r ∧ Cx S0 w00 δ' a'.defers S' w0' ∧ Rep S' w0' E' st' (exA δ' a') w') ∧ (b = false → ABd w00 δ' κ' a'.defers w') := fun e jump he hKe => by
      refine ⟨_, _, run_endRound (some jump) hl3, false, rfl, fun h => (by cases h), fun _ => ⟨l, _, hab, hc.marks, hkp t9.prot t9.marks, ?_⟩⟩
      exact .inl ⟨e, jump, _, _, he, World.putObj_heap_same (Array.getElem?_eq_some_iff.1 hl3).1, hKe, t9'.down x hsub hj rfl rfl hprb hpb _⟩
    cases e with
    | normal =>
      refine ⟨_, _, run_endRound none hl3, true, rfl, fun _ => ?_, fun h => (by cases h)⟩
      have t10 : Top S0 w00 δ' a'.defers (popJ n st3) (exA δ' a') (w3.putObj l (.loop (mkL fn D tm ps assign body .ready none))) (E3.wim (keepIm E3 st3.H)) :=
        { rep := Rep.pop { t9.rep.toRepH.ncput hl3 hp9.1 hp9.2.1 _ with env := t9.rep.env, defers := rfl } hs3
          hro := t9.hro
          mle := t9.mle
          pins := t9.pins
          prot := fun k o hk => by
            by_cases e : k = l
            · subst e
              have : prM a'.defers δ'.pr k = some (.loop (mkL fn D tm ps assign body .ready none)) := prM_of hc.marks hpl
              rw [this] at hk; cases hk
              exact ⟨nc_loop _, hp9.2.1, World.putObj_heap_same (Array.getElem?_eq_some_iff.1 hl3).1⟩
            · have h1 : (bdD δ δ' n l a'.tmps a'.defers (mkL fn D tm ps assign body .busy none)).pr k = some o := by
                show upd _ l _ k = _
                rw [upd_ne _ _ e]; exact hk
              obtain ⟨g1, g2, g3⟩ := t9.prot k o (prM_of t9.marks h1)
              exact ⟨g1, g2, by rw [World.putObj_heap_other e]; exact g3⟩
          marks := hc.marks }
      obtain ⟨c10, r10⟩ := t10.enter hm'
      exact ⟨_, _, _, _, hK3, c10, r10⟩
    | exit id => exact left (.exit id) _ rfl hK3
    | ret => exact left .ret _ rfl hK3
  · -- the loops around
    refine hYH.sub ⟨hn.symm, ⟨a'.tmps ++ mid ++ tm, ?_, ?_⟩, ?_, fun g' l' hg => ?_, fun k o hk => ?_, rfl, rfl⟩
    · show a'.tmps ++ δ'.sus = _
      rw [hsus]; simp only [Array.append_assoc]
    · rw [Array.size_append, Array.size_append, hs', hn', x.tm, hn, hsh]
      show g.nt + (mid.size + 0) + n + sh = g.nt + mid.size + n + sh
      omega
    · show δ.m ≤ δ'.m
      have := x.mg; omega
    · have h1 := x.pins g' l' hg
      have h2 := x.mg
      exact hsub.pins g' l' (by show upd δ.pins g.gid _ g' = _; rw [upd_ne _ _ (by omega)]; exact hg)
    · obtain ⟨h1, h2⟩ := hup k o hk
      exact hprb k o h1 h2
  · -- what stays
    intro l0 core0 hl0 w4 k o o' h1 h2 h3 h4 h5
    refine hAS l0 core0 hl0 w4 k o o' h1 h2 h3 ?_ h5
    cases hp : δ.pr k with
    | none => rfl
    | some o5 =>
      obtain ⟨h6, h7⟩ := hup k o5 hp
      rw [hprb k o5 h6 h7] at h4; cases h4
  · -- all is left
    rintro a3 w3 ⟨l0, core0, hl0, hmk, hp, hcore⟩ hs3
    have hl0 : δ.ab = some (l0, core0) := hl0
    have hkl : (bdK κ κ' l ds1 a'.defers (mkL fn D tm ps assign body .busy none)).kp l = some (.loop (mkL fn D tm ps assign body .busy none)) := if_pos rfl
    have hkb : ∀ k o, (bdK κ κ' l ds1 a'.defers (mkL fn D tm ps assign body .busy none)).kp k = some o → (bdD δ δ' n l a'.tmps a'.defers (mkL fn D tm ps assign body .busy none)).pr k ≠ none := fun k o hk => by
      simp only [bdK] at hk
      by_cases e : k = l
      · subst e; rw [hpb]; simp
      · rw [if_neg e] at hk
        split at hk
        · rename_i o' ho'
          show upd _ l _ k ≠ _
          rw [upd_ne _ _ e]
          have : prM a'.defers δ'.pr k = some o' := prM_le hwf'.kp ho'
          rw [this]; simp
        · rw [hprb k o e (pr_up x hsub (prM_le x.wf.kp hk)).2]; simp
    have hmm : ∀ k o, (bdK κ κ' l ds1 a'.defers (mkL fn D tm ps assign body .busy none)).kp k = some o → prM a3.defers (bdK κ κ' l ds1 a'.defers (mkL fn D tm ps assign body .busy none)).kp k = some o := fun k o hk => by
      unfold prM
      rw [if_neg fun hm => hkb k o hk (hmk.apart k hm)]; exact hk
    have hpl3 := hp l _ (hmm l _ hkl)
    have hl3 := hpl3.2.2
    refine ⟨_, _, run_endRound (some .ret) hl3, false, rfl, fun h => (by cases h), fun _ => ⟨l, _, hab, hc.marks, ?_, .inr ⟨World.putObj_heap_same (Array.getElem?_eq_some_iff.1 hl3).1, l0, core0, hl0, x.marks, ?_, ?_⟩⟩⟩
    · intro k o hk
      have hkl' : κ'.kp l = none := (hwf'.os l (by rw [hos]; exact List.mem_cons_self)).2
      have hne : k ≠ l := fun e => by
        subst e
        unfold prM at hk
        rw [if_neg (not_mark hc.marks hpl), hkl'] at hk; cases hk
      obtain ⟨g1, g2, g3⟩ := hp k o (hmm k o (by simp only [bdK]; rw [if_neg hne, hk]))
      exact ⟨g1, g2, by rw [World.putObj_heap_other hne]; exact g3⟩
    · intro k o hk
      obtain ⟨hne, h4⟩ := pr_up x hsub (prM_le x.wf.kp hk)
      have h6 : prM a'.defers κ'.kp k = some o ∨ prM a'.defers κ'.kp k = none := by
        unfold prM
        rw [if_neg (not_mark hc.marks h4)]
        cases hk5 : κ'.kp k with
        | none => exact .inr rfl
        | some o5 =>
          have := hwf'.kp k o5 hk5
          rw [h4] at this; cases this; exact .inl rfl
      obtain ⟨g1, g2, g3⟩ := hp k o (hmm k o (by
        simp only [bdK]; rw [if_neg hne]
        rcases h6 with h6 | h6
        · rw [h6]
        · rw [h6]; exact hk))
      exact ⟨g1, g2, by rw [World.putObj_heap_other hne]; exact g3⟩
    · refine hAS l0 core0 hl0 w3 l _ _ hl3 hpl3.1 hpl3.2.1 ?_ hcore
      cases hp0 : δ.pr l with
      | none => rfl
      | some o => exact ((hup l o hp0).1 rfl).elim
end
end Go.Eng

namespace Go.Eng
variable {R : Type} {P : Program} {S S0 : Sc} {w0 w00 w w' : World} {E : En} {st : St} {A a : Act} {r : R} {δ : Dx} {κ : Kx} {ds : List Deferred}
def LKX (P : Program) (S0 : Sc) (w00 : World) (r : R) (L : LT R) (key : Nat) (lp : Lp R) : Prop :=
  ∀ (δ : Dx) (κ : Kx) (Q : Exit → Act → World → Prop) (st : St), δ.ro = none → δ.n = lp.n → δ.m = lp.m → S0.m ≤ lp.m → WfD δ κ → KOY S0 w00 δ r lp.K Q → YH S0 w00 P r δ κ 0 lp.Y → AS w00 δ → ABO w00 δ κ Q → L key st = some r →
    ∀ S w0 E a w, Cx S0 w00 δ a.defers S w0 → Rep S w0 E st (exA δ a) w → a.tmps.size = δ.n → lp.c.wpIn (wideR none) 0 P (Exit.then (LWI (wideR none) P lp.c Q) Q) a w
def EvOK (P : Program) (S0 : Sc) (w00 : World) (r : R) (L : LT R) (ev : Ev R) (eva : Nat → EvA R) : Prop :=
  ∀ (y : Yd R) (n off m : Nat) (c : Code), codeOk n c = true → S0.m ≤ m → ∀ (δ : Dx) (κ : Kx) (K : KX R) (Q : Exit → Act → World → Prop) (st : St), δ.ro = none → δ.n = n → δ.m = m → WfD δ κ → KOY S0 w00 δ r K Q → YH S0 w00 P r δ κ 0 (some y) → AS w00 δ → ABO w00 δ κ Q → ev y n off c st K = some r →
    (∀ key, ∀ lp ∈ eva key y n off m c K, LKX P S0 w00 r L key lp) →
    ∀ S w0 E a w, Cx S0 w00 δ a.defers S w0 → Rep S w0 E st (exA δ a) w → a.tmps.size = δ.n → c.wpIn (wideR none) 0 P Q a w
def TOK (P : Program) (T : Nat → Option Rg) : Prop := ∀ key g, T key = some g → ∃ fn, P.funcs[g.f]? = some fn ∧ fn.body = some g.code ∧ fn.ntmps = g.nt ∧ codeOk g.nt g.code = true ∧ fn.results.toList = [] ∧ fn.name ≠ "runtime.NumGoroutine"
abbrev markD (k : Nat) : Deferred := { target := .collected k, args := #[] }
theorem prM_none {pr pr' : Nat → Option Obj} {k : Nat} (h : ∀ k o, pr k = some o → pr' k = some o) (hk : prM ds pr' k = none) : prM ds pr k = none := by
  cases h1 : prM ds pr k with
  | none => rfl
  | some o => rw [prM_le h h1] at hk; cases hk
theorem pr_none {pr : Nat → Option Obj} {k : Nat} (h : MarksWf pr ds) (hk : prM ds pr k = none) : pr k = none := by
  cases h1 : pr k with
  | none => rfl
  | some o => rw [prM_of h h1] at hk; cases hk
theorem ABd.put (h : ABd w00 δ κ ds w) (hwf : WfD δ κ) (hAS : AS w00 δ) {k : Nat} {o : Obj} (hk : w.heap[k]? = some o) (hn : NC o) (hw : w00.heap.size ≤ k) (hp : prM ds δ.pr k = none) (o' : Obj) : ABd w00 δ κ ds (w.putObj k o') := by
  obtain ⟨l, core, h1, h2, h3, h4⟩ := h
  exact ⟨l, core, h1, h2, h3.put (prM_none hwf.kp hp) o', hAS l core h1 w k o o' hk hn hw (pr_none h2 hp) h4⟩
theorem Top.fresh (t : Top S0 w00 δ ds st A w E) {k : Nat} (hk : w.heap.size ≤ k) : prM ds δ.pr k = none := by
  cases h : prM ds δ.pr k with
  | none => rfl
  | some o =>
    obtain ⟨_, _, h3⟩ := t.prot k o h
    have := (Array.getElem?_eq_some_iff.1 h3).1
    omega
theorem prM_mark {pr : Nat → Option Obj} {k : Nat} (h : k ∈ markIds ds) : prM ds pr k = some (.deferred (some [])) := if_pos h
theorem prM_cons_ne {pr : Nat → Option Obj} {k r : Nat} (h : k ≠ r) : prM (markD r :: ds) pr k = prM ds pr k := by
  unfold prM
  have : (k ∈ markIds (markD r :: ds)) ↔ k ∈ markIds ds := by simp [markIds, h]
  by_cases h1 : k ∈ markIds ds
  · rw [if_pos h1, if_pos (this.2 h1)]
  · rw [if_neg h1, if_neg fun h2 => h1 (this.1 h2)]
theorem mem_mark (r : Nat) : r ∈ markIds (markD r :: ds) := by simp [markIds]
theorem Top.mark (t : Top S0 w00 δ ds st A w E) : Top S0 w00 δ (markD w.heap.size :: ds) st A (w.alloc (.deferred (some []))) E where
  rep := (t.alloc _).rep
  hro := t.hro
  mle := t.mle
  pins := t.pins
  prot k o hk := by
    by_cases e : k = w.heap.size
    · subst e
      rw [prM_mark (mem_mark _)] at hk; cases hk
      exact ⟨nc_def _, t.rep.keeps.size, World.alloc_heap_new _ _⟩
    · rw [prM_cons_ne e] at hk
      exact (t.alloc _).prot k o hk
  marks := by
    have hf := t.fresh (Nat.le_refl w.heap.size)
    have hm : w.heap.size ∉ markIds ds := fun hm => by rw [prM_mark hm] at hf; cases hf
    refine ⟨fun d hd => ?_, List.nodup_cons.2 ⟨hm, t.marks.nodup⟩, fun k hk => ?_⟩
    · rcases List.mem_cons.1 hd with rfl | hd
      · exact ⟨_, rfl⟩
      · exact t.marks.form d hd
    · by_cases e : k = w.heap.size
      · subst e; exact pr_none t.marks hf
      · exact t.marks.apart k (by simpa [markIds, e] using hk)
theorem marks_tail {pr : Nat → Option Obj} {k : Nat} (h : MarksWf pr (markD k :: ds)) : MarksWf pr ds ∧ prM ds pr k = none := by
  have h1 := List.nodup_cons.1 h.nodup
  refine ⟨⟨fun d hd => h.form d (List.mem_cons_of_mem _ hd), h1.2, fun j hj => h.apart j (List.mem_cons_of_mem _ hj)⟩, ?_⟩
  unfold prM
  rw [if_neg h1.1]; exact h.apart k (mem_mark k)
theorem prOK_tail {pr pr' : Nat → Option Obj} {k : Nat} (h : MarksWf pr (markD k :: ds)) (hle : ∀ k o, pr' k = some o → pr k = some o) (hp : PrOK w00 (prM (markD k :: ds) pr') w) : PrOK w00 (prM ds pr') w := fun j o hj => by
  by_cases e : j = k
  · subst e
    rw [prM_none hle (marks_tail h).2] at hj; cases hj
  · exact hp j o (by rw [prM_cons_ne e]; exact hj)
theorem Top.take {k : Nat} (t : Top S0 w00 δ (markD k :: ds) st A w E) : w.heap[k]? = some (.deferred (some [])) ∧ Top S0 w00 δ ds st A (w.putObj k (.deferred none)) E := by
  obtain ⟨h1, h2, h3⟩ := t.prot k _ (prM_mark (mem_mark k))
  have t' : Top S0 w00 δ ds st A w E := ⟨t.rep, t.hro, t.mle, t.pins, prOK_tail t.marks (fun _ _ h => h) t.prot, (marks_tail t.marks).1⟩
  exact ⟨h3, t'.put h3 h1 h2 (marks_tail t.marks).2 _⟩
theorem ABd.take {k : Nat} (h : ABd w00 δ κ (markD k :: ds) w) (hwf : WfD δ κ) (hAS : AS w00 δ) : w.heap[k]? = some (.deferred (some [])) ∧ ABd w00 δ κ ds (w.putObj k (.deferred none)) := by
  obtain ⟨l, core, h1, h2, h3, h4⟩ := h
  obtain ⟨g1, g2, g3⟩ := h3 k _ (prM_mark (mem_mark k))
  have h' : ABd w00 δ κ ds w := ⟨l, core, h1, (marks_tail h2).1, prOK_tail h2 hwf.kp h3, h4⟩
  exact ⟨g3, h'.put hwf hAS g3 g1 g2 (marks_tail h2).2 _⟩
theorem leavesM {F : Fence} {n : Nat} {fn : Func} {tmps : Array Value} {Rr : Ending → World → Prop} {I : List Deferred → World → Prop} (hstep : ∀ k ds w, I (markD k :: ds) w → w.heap[k]? = some (.deferred (some [])) ∧ I ds (w.putObj k (.deferred none)))
    (hend : ∀ w, I [] w → ∃ v, (results fn tmps).run P w = .ok v w ∧ Rr (.returned v) w) : ∀ (ds : List Deferred) (w : World), (∀ d ∈ ds, ∃ k, d = markD k) → I ds w → LeavesInM F n P fn tmps Rr ds .returning w
  | [], w, _, h => hend w h
  | d :: ds, w, hd, h => by
    obtain ⟨k, rfl⟩ := hd d List.mem_cons_self
    obtain ⟨h1, h2⟩ := hstep k ds w h
    exact ⟨by simp, .inl ⟨k, _, rfl, run_takeDeferred h1, leavesM hstep hend ds _ (fun d hd' => hd d (List.mem_cons_of_mem _ hd')) h2⟩⟩
theorem results_nil {fn : Func} {tmps : Array Value} (h : fn.results.toList = []) : ∃ v, (results fn tmps).run P w = .ok v w := by
  have e : results fn tmps = (do let vs ← fn.results.mapM (resV ⟨tmps, []⟩); pure (if h : vs.size = 1 then vs[0] else .tuple vs)) := rfl
  refine ⟨.tuple #[], ?_⟩
  rw [e, Array.mapM_eq_mapM_toList, h]
  rfl
section
variable {C : CallJ R} {Y : Option (Yd R)} {sh off t n : Nat} {ps : Array Nat} {assign body : Code} {K : KX R} {L : LT R} {T : Nat → Option Rg} {ev : Ev R} {eva : Nat → EvA R}
theorem rangeY_ok {Q : Exit → Act → World → Prop} (hro : δ.ro = none) (hn : δ.n = n) (ht : t < n) (hps : ∀ p ∈ ps.toList, p < n) (hm : S0.m ≤ δ.m) (hwf : WfD δ κ) (hQ : KOY S0 w00 δ r K Q) (hYH : YH S0 w00 P r δ κ sh Y) (hAS : AS w00 δ) (hABO : ABO w00 δ κ Q) (hT : TOK P T) (hE : EvOK P S0 w00 r L ev eva)
    (hA : Snd S0 w00 P r n 0 none assign (codeY1 P C S0.m (fun _ _ => none) (fun _ => none) (fun _ _ _ _ _ _ => none) none 0 n off assign))
    (hB : ∀ sh', Snd S0 w00 P r n sh' Y body (codeY1 P C S0.m (fun _ _ => none) (fun _ => none) (fun _ _ _ _ _ _ => none) Y sh' n off body))
    (hL : ∀ g, T (off + headId body) = some g → ∀ key, ∀ lp ∈ eva key (recY P C S0.m Y sh n off g ps assign body K) g.nt ((off + headId body + 1) * 1000) (g.gid + 1) g.code (iterK S0.m g.nt K), LKX P S0 w00 r L key lp)
    (hJ : codeY1 P C S0.m L T ev Y sh n off (.rangeFunc (.tmp t) ps assign body) st K = some r)
    (c : Cx S0 w00 δ a.defers S w0) (hR : Rep S w0 E st (exA δ a) w) (hs : a.tmps.size = δ.n) : (Code.rangeFunc (.tmp t) ps assign body).wpIn (wideR δ.ro) 0 P Q a w := by
  simp only [codeY1] at hJ
  cases hg : T (off + headId body) with
  | none => rw [hg] at hJ; cases hJ
  | some g =>
  rw [hg] at hJ
  simp only at hJ
  split at hJ
  rotate_left
  · cases hJ
  rename_i f caps hx
  cases hcond : (Nat.beq f g.f && (!Nat.beq f YG && (Nat.ble st.nx g.gid && (okJ S0.m st && Nat.ble (caps.length + 1) g.nt)))) with
  | false => rw [hcond] at hJ; cases hJ
  | true =>
  rw [hcond] at hJ; simp only [cond_true] at hJ
  simp only [Bool.and_eq_true, Bool.not_eq_true'] at hcond
  obtain ⟨g1, hyg, g3, g4, g5⟩ := hcond
  have g1 := Nat.eq_of_beq_eq_true g1
  have g3 := Nat.le_of_ble_eq_true g3
  have g5 := Nat.le_of_ble_eq_true g5
  subst g1
  obtain ⟨fn, q1, q2, q3, q4, q5, q6⟩ := hT _ g hg
  -- the function
  have hval := hR.env t
  rw [hx] at hval
  obtain ⟨cs, hv, hcaps⟩ : ∃ cs, a.tmps.getD t undef = fnV g.f cs ∧ RVl E st.H caps cs.toList := by
    obtain ⟨cs, e1, e2⟩ := hval
    refine ⟨cs, ?_, e2⟩
    have e1 : (exA δ a).tmps.getD t undef = fnV g.f cs := by simpa using e1
    have e3 : (exA δ a).tmps = a.tmps ++ δ.sus := rfl
    rw [e3, getD_append_l (by rw [hs, hn]; exact ht)] at e1
    exact e1
  rw [fnV_of hyg] at hv
  have hbn : fn.body.isNone = false := by rw [q2]; rfl
  have hnm : (fn.name == "runtime.NumGoroutine") = false := by simpa using q6
  -- the world
  have t0 := c.leave hR (ok_ro g4 hR.fresh)
  have t1 := t0.mark
  have t2 := t1.alloc (.loop (mkL 0 w.heap.size a.tmps ps assign body .ready none))
  rw [hro]
  refine wpIn_rangeFunc ?_
  intro fid hfid
  have t2 := t1.alloc (.loop (mkL fid w.heap.size a.tmps ps assign body .ready none))
  obtain ⟨l, hl⟩ : ∃ l, l = w.heap.size + 1 := ⟨_, rfl⟩
  have hsz1 : (w.alloc (.deferred (some []))).heap.size = l := by rw [World.size_alloc, hl]
  obtain ⟨w1, hw1⟩ : ∃ w1, (w.alloc (.deferred (some []))).alloc (.loop (mkL fid w.heap.size a.tmps ps assign body .ready none)) = w1 := ⟨_, rfl⟩
  rw [hw1] at t2
  have hl1 : w1.heap[l]? = some (.loop (mkL fid w.heap.size a.tmps ps assign body .ready none)) := by rw [← hw1, ← hsz1]; exact World.alloc_heap_new _ _
  refine ⟨l, [markD w.heap.size], w1, { target := .fn (.func g.f) cs, args := #[.func (.yield l) #[] #[]] }, w1, g.f, #[.func (.yield l) #[] #[]] ++ cs, w1, ?_, ?_, ?_, ?_, fun hx => by simp [wideR, Fence.wide] at hx, ?_⟩
  · rw [← hw1, hl]; exact run_enterLoop_outer _ _ _ _ _
  · have hv' : a.eval (.tmp t) = .func (.func g.f) #[] cs := hv
    simp only [resolve, Deferred.ofValue, hv', Sem.run_bind, Sem.run_pure, Result.andThen_ok]
    simp [Act.eval]
  · intro f' hf'; trivial
  · simp only [invoke, callFunc, Sem.run_bind, run_program, Result.andThen_ok, q1, hnm, hbn, Bool.false_eq_true, if_false, Sem.run_pure]
  -- the iterator
  have hw0l : w00.heap.size ≤ l := by have := t0.rep.keeps.size; omega
  have hpl : prM (markD w.heap.size :: a.defers) δ.pr l = none := t1.fresh (Nat.le_of_eq hsz1)
  have x : RX S0 w00 δ κ (markD w.heap.size :: a.defers) a.tmps g l := ⟨hm, Nat.le_trans t0.mle g3, fun g' l' h => (c.pins g' l' h).1, hpl, t1.marks, hs, hwf, hw0l⟩
  have hyh := roundX_ok (fn := fid) (D := w.heap.size) (K := K) (off := off) x hn hps hYH hAS hA hB
  obtain ⟨rec, hrec⟩ : ∃ rec, rec = mkL fid w.heap.size a.tmps ps assign body .ready none := ⟨_, rfl⟩
  obtain ⟨core, hcore⟩ : ∃ core, core = coreY S0 w00 r δ κ (markD w.heap.size :: a.defers) a.tmps K l fun c => .loop (mkL fid w.heap.size a.tmps ps assign body .done (some c)) := ⟨_, rfl⟩
  rw [← hrec] at hyh hl1
  rw [← hcore] at hyh
  obtain ⟨a1, ha1⟩ : ∃ a1 : Act, a1 = { a with defers := [markD w.heap.size] ++ a.defers } := ⟨_, rfl⟩
  rw [← ha1]
  have ha1d : a1.defers = markD w.heap.size :: a.defers := by rw [ha1]; rfl
  have ha1t : a1.tmps = a.tmps := by rw [ha1]
  have ha1e : exA δ a1 = ⟨a.tmps ++ δ.sus, []⟩ := by unfold exA; rw [ha1t]
  refine callsIn_of_wp_marks q1 q2 trivial ?_
  obtain ⟨us, hus⟩ : ∃ us : List Value, us = .func (.yield l) #[] #[] :: cs.toList := ⟨_, rfl⟩
  have hargs : #[.func (.yield l) #[] #[]] ++ cs = us.toArray := by rw [hus]; apply Array.ext'; simp
  rw [hargs]
  have hlen : us.length ≤ g.nt := by
    have := RVL_length (RVl_RVL hcaps)
    rw [hus, List.length_cons, this]; exact g5
  have hasz : (us.toArray ++ Array.replicate (fn.ntmps - us.toArray.size) undef).size = g.nt := by rw [q3]; simp; omega
  have G := ghost_goes (l := l) t2.rep.toRepH g3
  have hvals : RVL (ghostE (E.wim (keepIm E st.H)) g.gid l) (upd st.H g.gid (some (.box [] true))) (.fn YG [.ptr g.gid 0] :: caps) us := by
    refine ⟨_, _, hus, ⟨#[.pointer (some ⟨l, 0, none⟩)], ?_, ⟨_, _, rfl, rfl, ⟨Nat.lt_succ_self _, _, rfl, rfl, fun _ => ?_⟩, rfl⟩⟩, ?_⟩
    · unfold fnV; rw [if_pos rfl]
    · simp only [ghostE, upd_same]
    · have := G.RVL (lvl_RVL keepIm_lvl (RVl_RVL hcaps))
      rwa [renL_some] at this
  have t3 : Top S0 w00 (itD δ (markD w.heap.size :: a.defers) a.tmps g l rec core) [] (enterJ g caps st) (exA (itD δ (markD w.heap.size :: a.defers) a.tmps g l rec core) ⟨us.toArray ++ Array.replicate (fn.ntmps - us.toArray.size) undef, []⟩) w1 (ghostE (E.wim (keepIm E st.H)) g.gid l) :=
    { rep := Rep.push (st := ⟨st.env, upd st.H g.gid (some (.box [] true)), g.gid + 1⟩) { t2.rep.toRepH.ghost l g3 with env := fun i => (by have := RV_ren G (t2.rep.env i); rwa [ren_some] at this), defers := rfl } hasz (fun i _ => arg_ok _ hvals i)
      hro := fun id o h1 h2 => by
        have h1 : upd st.H g.gid (some (.box [] true)) id = some o := h1
        by_cases e : id = g.gid
        · subst e; rw [upd_same] at h1; cases h1; cases h2
        · rw [upd_ne _ _ e] at h1; exact t2.hro id o h1 h2
      mle := Nat.le_refl _
      pins := fun g' l' h => by
        have h : upd δ.pins g.gid (some l) g' = some l' := h
        by_cases e : g' = g.gid
        · subst e; rw [upd_same] at h; cases h
          exact ⟨Nat.lt_succ_self _, upd_same _ _ _⟩
        · rw [upd_ne _ _ e] at h
          obtain ⟨h1, h2⟩ := t2.pins g' l' h
          have := x.mg
          exact ⟨by show g' < g.gid + 1; omega, (upd_ne _ _ e).trans h2⟩
      prot := by
        rw [prM_nil]
        intro k o hk
        have hk : upd (prM (markD w.heap.size :: a.defers) δ.pr) l (some (.loop rec)) k = some o := hk
        by_cases e : k = l
        · subst e; rw [upd_same] at hk; cases hk
          exact ⟨nc_loop _, hw0l, hl1⟩
        · rw [upd_ne _ _ e] at hk; exact t2.prot k o hk
      marks := marks_nil }
  have hmi : S0.m ≤ (itD δ (markD w.heap.size :: a.defers) a.tmps g l rec core).m := by show S0.m ≤ g.gid + 1; have := x.mg; omega
  obtain ⟨c4, r4⟩ := t3.enter hmi
  have hwfi : WfD (itD δ (markD w.heap.size :: a.defers) a.tmps g l rec core) (itK κ l) := by
    refine ⟨fun k o h => (by cases h), fun k hk => ⟨?_, rfl⟩, fun l0 core0 h => by cases h; exact List.mem_cons_self⟩
    show upd (prM (markD w.heap.size :: a.defers) δ.pr) l (some (.loop rec)) k ≠ none
    by_cases e : k = l
    · subst e; rw [upd_same]; simp
    · rw [upd_ne _ _ e]
      have hk' : k ∈ κ.os := by
        rcases List.mem_cons.1 hk with h | h
        · exact (e h).elim
        · exact h
      intro hnone
      exact (hwf.os k hk').1 (pr_none t1.marks hnone)
  have hASi : AS w00 (itD δ (markD w.heap.size :: a.defers) a.tmps g l rec core) := by
    intro l0 core0 h0 w5 k o o' hk hnc hwk hp hc
    cases h0
    have hp : upd (prM (markD w.heap.size :: a.defers) δ.pr) l (some (.loop rec)) k = none := hp
    have e : k ≠ l := fun e => by subst e; rw [upd_same] at hp; cases hp
    rw [upd_ne _ _ e] at hp
    rw [hcore] at hc ⊢
    rcases hc with ⟨e', jump, st', E', h1, h2, h3, h4⟩ | ⟨h1, h2⟩
    · exact .inl ⟨e', jump, st', E', h1, by rw [World.putObj_heap_other (Ne.symm e)]; exact h2, h3, h4.put hk hnc hwk hp o'⟩
    · exact .inr ⟨by rw [World.putObj_heap_other (Ne.symm e)]; exact h1, h2.put hwf hAS hk hnc hwk hp o'⟩
  have hres : ∀ (tm : Array Value) (w : World), ∃ v, (results fn tm).run P w = .ok v w := fun tm w => results_nil q5
  refine hE (recY P C S0.m Y sh n off g ps assign body K) g.nt ((off + headId body + 1) * 1000) (g.gid + 1) g.code q4 hmi (itD δ (markD w.heap.size :: a.defers) a.tmps g l rec core) (itK κ l) (iterK S0.m g.nt K) _ (enterJ g caps st) rfl rfl rfl hwfi ?_ hyh hASi ?_ hJ (hL g hg) _ _ _ _ _ c4 r4 hasz
  · -- behind the iterator
    have fin : ∀ st2, okJ S0.m st2 = true → K .normal (popJ g.nt st2) = some r → ∀ (S2 : Sc) (w02 : World) (E2 : En) (a2 : Act) (w2 : World), Cx S0 w00 (itD δ (markD w.heap.size :: a.defers) a.tmps g l rec core) a2.defers S2 w02 → Rep S2 w02 E2 st2 (exA (itD δ (markD w.heap.size :: a.defers) a.tmps g l rec core) a2) w2 → a2.tmps.size = g.nt → LeavesInM (wideR none) 0 P fn a2.tmps (rangePost (wideR none) 0 P l Q a1) a2.defers .returning w2 := by
      intro st2 hok hK S2 w02 E2 a2 w2 c2 R2 s2
      have t4 := c2.leave R2 (ok_ro hok R2.fresh)
      refine leavesM (I := fun ds w5 => Top S0 w00 (itD δ (markD w.heap.size :: a.defers) a.tmps g l rec core) ds st2 (exA (itD δ (markD w.heap.size :: a.defers) a.tmps g l rec core) a2) w5 (E2.wim (keepIm E2 st2.H))) (fun k ds w t => t.take) ?_ _ _ t4.marks.form t4
      intro w3 t5
      obtain ⟨v, hv⟩ := hres a2.tmps w3
      refine ⟨v, hv, ?_⟩
      have hpl2 : (itD δ (markD w.heap.size :: a.defers) a.tmps g l rec core).pr l = some (.loop rec) := upd_same _ _ _
      have hl3 := (t5.prot l _ (prM_of t5.marks hpl2)).2.2
      refine ⟨rec.pending, _, run_endLoop (P := P) hl3 (by rw [hrec]; simp [mkL]), ?_⟩
      have t6 := t5.down x (SubX.refl (κ := itK κ l)) s2 rfl rfl (fun k o _ h => h) hpl2 (.loop { rec with state := .exhausted })
      obtain ⟨c6, r6⟩ := t6.enter hm
      rw [← ha1d] at c6
      rw [← ha1e] at r6
      have h9 := hQ .normal _ hK _ _ _ a1 _ c6 r6 (by rw [ha1t]; exact hs)
      have hp : rec.pending = none := by rw [hrec]; rfl
      rw [hp] at h9 ⊢; exact h9
    intro e st2 hK S2 w02 E2 a2 w2 c2 R2 s2
    cases e with
    | exit id => cases hK
    | normal =>
      simp only [iterK] at hK
      cases hok : okJ S0.m st2 with
      | false => rw [hok] at hK; cases hK
      | true => rw [hok] at hK; exact fin st2 hok hK S2 w02 E2 a2 w2 c2 R2 s2
    | ret =>
      simp only [iterK] at hK
      cases hok : okJ S0.m st2 with
      | false => rw [hok] at hK; cases hK
      | true => rw [hok] at hK; exact fin st2 hok hK S2 w02 E2 a2 w2 c2 R2 s2
  · -- all is left
    intro a2 w2 hab s2
    have hmk : ∀ d ∈ a2.defers, ∃ k, d = markD k := by obtain ⟨_, _, _, h2, _⟩ := hab; exact h2.form
    refine leavesM (I := fun ds w5 => ABd w00 (itD δ (markD w.heap.size :: a.defers) a.tmps g l rec core) (itK κ l) ds w5) (fun k ds w t => t.take hwfi hASi) ?_ _ _ hmk hab
    intro w3 ⟨l0, core0, h1, h2, h3, h4⟩
    cases h1
    obtain ⟨v, hv⟩ := hres a2.tmps w3
    refine ⟨v, hv, ?_⟩
    rw [hcore] at h4
    rcases h4 with ⟨e, jump, st', E', j1, j2, j3, j4⟩ | ⟨j1, j2⟩
    · refine ⟨some jump, _, run_endLoop (P := P) j2 (by simp [mkL]), ?_⟩
      have t6 := j4.put j2 (nc_loop _) hw0l hpl (.loop { mkL fid w.heap.size a.tmps ps assign body .done (some jump) with state := .exhausted })
      obtain ⟨c6, r6⟩ := t6.enter hm
      rw [← ha1d] at c6
      rw [← ha1e] at r6
      have := hQ e _ j3 _ _ _ a1 _ c6 r6 (by rw [ha1t]; exact hs)
      cases e with
      | normal => cases j1
      | exit id => cases j1; exact wpIn_exit this
      | ret => cases j1; exact wpIn_ret this
    · refine ⟨some .ret, _, run_endLoop (P := P) j1 (by simp [mkL]), ?_⟩
      refine wpIn_ret (hABO _ _ ?_ (by rw [ha1t]; exact hs))
      rw [ha1d]
      exact j2.put hwf hAS j1 (nc_loop _) hw0l hpl _
end
end Go.Eng

namespace Go.Eng
variable {R : Type} {P : Program} {S S0 : Sc} {w0 w00 w w' : World} {E : En} {st : St} {A a : Act} {r : R} {δ : Dx} {κ : Kx} {ds : List Deferred}
theorem KOY.then {K' : St → Option R} {K : KX R} {Q : Exit → Act → World → Prop} {N : Act → World → Prop} (h : KOY S0 w00 δ r K Q) (h' : ∀ st, K' st = some r → ∀ S w0 E a w, Cx S0 w00 δ a.defers S w0 → Rep S w0 E st (exA δ a) w → a.tmps.size = δ.n → N a w) : KOY S0 w00 δ r (andThen K' K) (Exit.then N Q) := by
  intro e st hK S w0 E a w hc hR hn
  cases e with
  | normal => exact h' st hK S w0 E a w hc hR hn
  | exit id => exact h (.exit id) st hK S w0 E a w hc hR hn
  | ret => exact h .ret st hK S w0 E a w hc hR hn
theorem KOY.blk {id : Nat} {K : KX R} {Q : Exit → Act → World → Prop} (h : KOY S0 w00 δ r K Q) : KOY S0 w00 δ r (inBlk id K) (Exit.inBlock id Q) := by
  intro e st hK S w0 E a w hc hR hn
  cases e with
  | normal => exact h .normal st hK S w0 E a w hc hR hn
  | exit id' =>
    simp only [inBlk] at hK
    simp only [toX, Exit.inBlock]
    cases hb : Nat.beq id' id with
    | true => rw [hb] at hK; rw [if_pos (Nat.eq_of_beq_eq_true hb)]; exact h .normal st hK S w0 E a w hc hR hn
    | false =>
      rw [hb] at hK
      rw [if_neg (fun e => by subst e; simp at hb)]
      exact h (.exit id') st hK S w0 E a w hc hR hn
  | ret => exact h .ret st hK S w0 E a w hc hR hn
theorem ABO.then {Q : Exit → Act → World → Prop} {N : Act → World → Prop} (h : ABO w00 δ κ Q) : ABO w00 δ κ (Exit.then N Q) := fun a w h1 h2 => h a w h1 h2
theorem ABO.blk {Q : Exit → Act → World → Prop} {id : Nat} (h : ABO w00 δ κ Q) : ABO w00 δ κ (Exit.inBlock id Q) := fun a w h1 h2 => h a w h1 h2
def noL : LT R := fun _ _ => none
def noEv : Ev R := fun _ _ _ _ _ _ => none
def noEva : Nat → EvA R := fun _ _ _ _ _ _ _ => []
theorem noEv_ok {L : LT R} {eva : Nat → EvA R} : EvOK P S0 w00 r L (fun _ _ _ _ _ _ => none) eva := fun y n off m c _ _ δ κ K Q st _ _ _ _ _ _ _ _ h => by cases h
theorem noT_ok : TOK P fun _ => none := fun key g h => by cases h
section
variable {C : CallJ R} {C' : CallJ PK} (hC : CallOK P C) (hN : CallNat C C') (hC' : CallOK P C') (hmo : P.follows .mixedOrders = true)
include hC hN hC' hmo
theorem codeY1_ok : ∀ {c : Code} {L : LT R} {T : Nat → Option Rg} {ev : Ev R} {eva : Nat → EvA R} {d m : Nat} {Y : Option (Yd R)} {sh n off : Nat} {δ : Dx} {κ : Kx} {K : KX R} {Q : Exit → Act → World → Prop} {st : St} {S : Sc} {w0 : World} {E : En} {a : Act} {w : World},
    TOK P T → EvOK P S0 w00 r L ev eva → codeOk n c = true →
    ((δ.ro = none ∧ sh = 0 ∧ δ.m = m ∧ ∀ key, ∀ lp ∈ allY1 P C S0.m L T ev (eva key) d Y n off m key c K, LKX P S0 w00 r L key lp) ∨ (∀ k, T k = none) ∧ ∀ k st, L k st = none) →
    δ.n = n → S0.m ≤ δ.m → WfD δ κ → KOY S0 w00 δ r K Q → YH S0 w00 P r δ κ sh Y → AS w00 δ → ABO w00 δ κ Q → codeY1 P C S0.m L T ev Y sh n off c st K = some r →
    Cx S0 w00 δ a.defers S w0 → Rep S w0 E st (exA δ a) w → a.tmps.size = δ.n → c.wpIn (wideR δ.ro) 0 P Q a w
  | .skip, L, T, ev, eva, d, m, Y, sh, n, off, δ, κ, K, Q, st, S, w0, E, a, w, hT, hE, hok, hl, hn, hm, hwf, hQ, hY, hAS, hAB, hJ, hc, hR, hs => wpIn_skip (hQ .normal st hJ S w0 E a w hc hR hs)
  | .region id ops draw, L, T, ev, eva, d, m, Y, sh, n, off, δ, κ, K, Q, st, S, w0, E, a, w, hT, hE, hok, hl, hn, hm, hwf, hQ, hY, hAS, hAB, hJ, hc, hR, hs => by
    unfold codeY1 at hJ
    subst hn
    exact regionY_ok hC hN hC' hmo hok hJ hR hs fun E' st' a' w' h1 h2 h3 h4 => hQ .normal st' h1 S w0 E' a' w' (by rw [h4]; exact hc) h2 h3
  | .seq x y, L, T, ev, eva, d, m, Y, sh, n, off, δ, κ, K, Q, st, S, w0, E, a, w, hT, hE, hok, hl, hn, hm, hwf, hQ, hY, hAS, hAB, hJ, hc, hR, hs => by
    have hok' := hok
    simp only [codeOk, Bool.and_eq_true] at hok'
    have main : ∀ (hJ : codeY1 P C S0.m L T ev Y sh n off x st (andThen (fun st' => codeY1 P C S0.m L T ev Y sh n off y st' K) K) = some r)
        (hl : (δ.ro = none ∧ sh = 0 ∧ δ.m = m ∧ ∀ key, ∀ lp ∈ allY1 P C S0.m L T ev (eva key) d Y n off m key x (andThen (fun st' => codeY1 P C S0.m L T ev Y 0 n off y st' K) K) ++ allY1 P C S0.m L T ev (eva key) d Y n off m key y K, LKX P S0 w00 r L key lp) ∨ (∀ k, T k = none) ∧ ∀ k st, L k st = none),
        (Code.seq x y).wpIn (wideR δ.ro) 0 P Q a w := fun hJ hl => by
      refine wpIn_seq (codeY1_ok (c := x) hT hE hok'.1 (eva := eva) (d := d) (m := m) ?_ hn hm hwf (KOY.then hQ fun st' hK S' w0' E' a' w' hc' hR' hs' => codeY1_ok (c := y) hT hE hok'.2 (eva := eva) (d := d) (m := m) ?_ hn hm hwf hQ hY hAS hAB hK hc' hR' hs') hY hAS hAB.then hJ hc hR hs)
      · rcases hl with ⟨h1, h2, h3, h4⟩ | h
        · subst h2
          exact .inl ⟨h1, rfl, h3, fun key lp hlp => h4 key lp (List.mem_append_left _ hlp)⟩
        · exact .inr h
      · rcases hl with ⟨h1, h2, h3, h4⟩ | h
        · exact .inl ⟨h1, h2, h3, fun key lp hlp => h4 key lp (List.mem_append_right _ hlp)⟩
        · exact .inr h
    unfold codeY1 at hJ
    unfold allY1 at hl
    cases Y with
    | none => exact main hJ hl
    | some yy =>
      simp only at hJ hl
      cases hu : yieldP (.seq x y) with
      | some u =>
        rw [hu] at hJ
        subst hn
        exact yieldY_ok hC hok hu hY hwf hQ hAB hJ hc hR hs
      | none =>
        rw [hu] at hJ hl
        exact main hJ hl
  | .cond b x y, L, T, ev, eva, d, m, Y, sh, n, off, δ, κ, K, Q, st, S, w0, E, a, w, hT, hE, hok, hl, hn, hm, hwf, hQ, hY, hAS, hAB, hJ, hc, hR, hs => by
    simp only [codeOk, Bool.and_eq_true] at hok
    unfold codeY1 at hJ
    obtain ⟨t, hb, hJ⟩ := asBoolK_inv hJ
    have hv := opnd_ok hR b
    rw [hb] at hv
    have hv := RV_bool hv
    have hv' : a.eval b = .bool t := by
      rw [← hv]
      exact ((ext_of (sus := δ.sus) (hs.trans hn)).eval hok.1).symm
    have hl1 : (δ.ro = none ∧ sh = 0 ∧ δ.m = m ∧ ∀ key, ∀ lp ∈ allY1 P C S0.m L T ev (eva key) d Y n off m key x K, LKX P S0 w00 r L key lp) ∨ (∀ k, T k = none) ∧ ∀ k st, L k st = none :=
      hl.imp (fun ⟨h1, h2, h3, h4⟩ => ⟨h1, h2, h3, fun key lp hlp => h4 key lp (by unfold allY1; exact List.mem_append_left _ hlp)⟩) id
    have hl2 : (δ.ro = none ∧ sh = 0 ∧ δ.m = m ∧ ∀ key, ∀ lp ∈ allY1 P C S0.m L T ev (eva key) d Y n off m key y K, LKX P S0 w00 r L key lp) ∨ (∀ k, T k = none) ∧ ∀ k st, L k st = none :=
      hl.imp (fun ⟨h1, h2, h3, h4⟩ => ⟨h1, h2, h3, fun key lp hlp => h4 key lp (by unfold allY1; exact List.mem_append_right _ hlp)⟩) id
    refine wpIn_cond (t := t) hv' ?_
    cases t with
    | true => exact codeY1_ok (c := x) hT hE hok.2.1 hl1 hn hm hwf hQ hY hAS hAB hJ hc hR hs
    | false => exact codeY1_ok (c := y) hT hE hok.2.2 hl2 hn hm hwf hQ hY hAS hAB hJ hc hR hs
  | .block id c, L, T, ev, eva, d, m, Y, sh, n, off, δ, κ, K, Q, st, S, w0, E, a, w, hT, hE, hok, hl, hn, hm, hwf, hQ, hY, hAS, hAB, hJ, hc, hR, hs => by
    unfold codeY1 at hJ
    unfold allY1 at hl
    exact wpIn_block (codeY1_ok (c := c) hT hE hok hl hn hm hwf hQ.blk hY hAS hAB.blk hJ hc hR hs)
  | .loop c, L, T, ev, eva, d, m, Y, sh, n, off, δ, κ, K, Q, st, S, w0, E, a, w, hT, hE, hok, hl, hn, hm, hwf, hQ, hY, hAS, hAB, hJ, hc, hR, hs => by
    unfold codeY1 at hJ
    rcases hl with ⟨h1, h2, h3, h4⟩ | ⟨_, h⟩
    · subst h2
      have := h4 (off + headId c) ⟨d, Y, n, off, m, c, K⟩ (by
        unfold allY1
        refine List.mem_append_left _ ?_
        have : Nat.beq (off + headId c) (off + headId c) = true := Nat.beq_refl _
        rw [this]; exact List.mem_singleton.2 rfl)
      rw [h1]
      exact loopI_of_round (this δ κ Q st h1 hn h3 (by show S0.m ≤ m; omega) hwf hQ hY hAS hAB hJ S w0 E a w hc hR hs)
    · rw [h] at hJ; cases hJ
  | .exit id, L, T, ev, eva, d, m, Y, sh, n, off, δ, κ, K, Q, st, S, w0, E, a, w, hT, hE, hok, hl, hn, hm, hwf, hQ, hY, hAS, hAB, hJ, hc, hR, hs => wpIn_exit (hQ (.exit id) st hJ S w0 E a w hc hR hs)
  | .ret, L, T, ev, eva, d, m, Y, sh, n, off, δ, κ, K, Q, st, S, w0, E, a, w, hT, hE, hok, hl, hn, hm, hwf, hQ, hY, hAS, hAB, hJ, hc, hR, hs => wpIn_ret (hQ .ret st hJ S w0 E a w hc hR hs)
  | .rangeFunc f ps assign body, L, T, ev, eva, d, m, Y, sh, n, off, δ, κ, K, Q, st, S, w0, E, a, w, hT, hE, hok, hl, hn, hm, hwf, hQ, hY, hAS, hAB, hJ, hc, hR, hs => by
    simp only [codeOk, Bool.and_eq_true] at hok
    obtain ⟨hf, hps, hoA, hoB⟩ := hok
    cases f with
    | tmp t =>
      rcases hl with ⟨h1, h2, h3, h4⟩ | ⟨h, _⟩
      · subst h2
        refine rangeY_ok (eva := eva) h1 hn (by simpa [belowO] using hf) (fun p hp => by simpa using List.all_eq_true.1 hps p hp) hm hwf hQ hY hAS hAB hT hE ?_ ?_ ?_ hJ hc hR hs
        · intro δ κ K Q st a1 a2 a3 a4 a5 a6 a7 a8 S w0 E a w a9 a10 a11
          exact codeY1_ok (c := assign) noT_ok noEv_ok hoA (eva := noEva) (d := 0) (m := 0) (.inr ⟨fun _ => rfl, fun _ _ => rfl⟩) a1 a2 a3 a4 a5 a6 a7 a8 a9 a10 a11
        · intro sh' δ κ K Q st a1 a2 a3 a4 a5 a6 a7 a8 S w0 E a w a9 a10 a11
          exact codeY1_ok (c := body) noT_ok noEv_ok hoB (eva := noEva) (d := 0) (m := 0) (.inr ⟨fun _ => rfl, fun _ _ => rfl⟩) a1 a2 a3 a4 a5 a6 a7 a8 a9 a10 a11
        · intro g hg key lp hlp
          exact h4 key lp (by unfold allY1; rw [hg]; exact hlp)
      · unfold codeY1 at hJ
        simp only [h] at hJ
        cases hJ
    | _ => unfold codeY1 at hJ; cases hJ
  | .scope _, L, T, ev, eva, d, m, Y, sh, n, off, δ, κ, K, Q, st, S, w0, E, a, w, hT, hE, hok, hl, hn, hm, hwf, hQ, hY, hAS, hAB, hJ, hc, hR, hs => by unfold codeY1 at hJ; cases hJ
  | .label _, L, T, ev, eva, d, m, Y, sh, n, off, δ, κ, K, Q, st, S, w0, E, a, w, hT, hE, hok, hl, hn, hm, hwf, hQ, hY, hAS, hAB, hJ, hc, hR, hs => by unfold codeY1 at hJ; cases hJ
  | .goto _, L, T, ev, eva, d, m, Y, sh, n, off, δ, κ, K, Q, st, S, w0, E, a, w, hT, hE, hok, hl, hn, hm, hwf, hQ, hY, hAS, hAB, hJ, hc, hR, hs => by unfold codeY1 at hJ; cases hJ
  | .refuse _, L, T, ev, eva, d, m, Y, sh, n, off, δ, κ, K, Q, st, S, w0, E, a, w, hT, hE, hok, hl, hn, hm, hwf, hQ, hY, hAS, hAB, hJ, hc, hR, hs => by unfold codeY1 at hJ; cases hJ
end
end Go.Eng

namespace Go.Eng
variable {R : Type} {P : Program} {S S0 : Sc} {w0 w00 w w' : World} {E : En} {st : St} {A a : Act} {r : R} {δ : Dx} {κ : Kx} {ds : List Deferred}
def evD (P : Program) (C : CallJ R) (m0 : Nat) (L : LT R) (T : Nat → Option Rg) : Nat → Ev R
  | 0 => fun _ _ _ _ _ _ => none
  | d + 1 => fun y n off c st K => codeY P C m0 L T d (some y) 0 n off c st K
def evaD (P : Program) (C : CallJ R) (m0 : Nat) (L : LT R) (T : Nat → Option Rg) : Nat → Nat → EvA R
  | 0 => fun _ _ _ _ _ _ _ => []
  | d + 1 => fun key y n off m c K => allY P C m0 L T key d (some y) n off m c K
section
variable {C : CallJ R} {m0 key : Nat} {L L' : LT R} {T : Nat → Option Rg}
theorem codeY_eq : ∀ d, codeY P C m0 L T d = codeY1 P C m0 L T (evD P C m0 L T d)
  | 0 => rfl
  | _ + 1 => rfl
theorem allY_eq : ∀ d, allY P C m0 L T key d = fun Y n off m => allY1 P C m0 L T (evD P C m0 L T d) (evaD P C m0 L T d key) d Y n off m key
  | 0 => rfl
  | _ + 1 => rfl
theorem all_sub1 {ev : Ev R} {eva : Nat → EvA R} {d : Nat} {lp : Lp R} {key2 : Nat} {lp2 : Lp R} (h2 : lp2 ∈ allY P C m0 L T key2 lp.d lp.Y lp.n lp.off lp.m lp.c (andThen (L key) lp.K))
    (hd : ∀ Y n off m c K, allY P C m0 L T key2 d Y n off m c K = allY1 P C m0 L T ev (eva key2) d Y n off m key2 c K)
    (hev : ∀ y n off m c K, lp ∈ eva key y n off m c K → lp2 ∈ eva key2 y n off m c K) : ∀ {c : Code} {Y : Option (Yd R)} {n off m : Nat} {K : KX R}, lp ∈ allY1 P C m0 L T ev (eva key) d Y n off m key c K → lp2 ∈ allY1 P C m0 L T ev (eva key2) d Y n off m key2 c K
  | .seq a b, Y, n, off, m, K, h => by
    unfold allY1 at h ⊢
    cases Y with
    | none =>
      rcases List.mem_append.1 h with h | h
      · exact List.mem_append_left _ (all_sub1 (c := a) h2 hd hev h)
      · exact List.mem_append_right _ (all_sub1 (c := b) h2 hd hev h)
    | some y =>
      simp only at h ⊢
      cases hu : yieldP (.seq a b) with
      | some u => rw [hu] at h; cases h
      | none =>
        rw [hu] at h
        rcases List.mem_append.1 h with h | h
        · exact List.mem_append_left _ (all_sub1 (c := a) h2 hd hev h)
        · exact List.mem_append_right _ (all_sub1 (c := b) h2 hd hev h)
  | .cond _ a b, Y, n, off, m, K, h => by
    unfold allY1 at h ⊢
    rcases List.mem_append.1 h with h | h
    · exact List.mem_append_left _ (all_sub1 (c := a) h2 hd hev h)
    · exact List.mem_append_right _ (all_sub1 (c := b) h2 hd hev h)
  | .block id c, Y, n, off, m, K, h => by
    unfold allY1 at h ⊢
    exact all_sub1 (c := c) h2 hd hev h
  | .loop c, Y, n, off, m, K, h => by
    unfold allY1 at h ⊢
    refine List.mem_append_right _ ?_
    rcases List.mem_append.1 h with h | h
    · cases hb : Nat.beq (off + headId c) key with
      | false => rw [hb] at h; cases h
      | true =>
        rw [hb] at h
        have := List.mem_singleton.1 h
        subst this
        rw [Nat.eq_of_beq_eq_true hb, ← hd]
        exact h2
    · exact all_sub1 (c := c) h2 hd hev h
  | .rangeFunc f ps assign body, Y, n, off, m, K, h => by
    unfold allY1 at h ⊢
    cases hg : T (off + headId body) with
    | none => rw [hg] at h; cases h
    | some g => rw [hg] at h; exact hev _ _ _ _ _ _ h
  | .skip, Y, n, off, m, K, h | .region .., Y, n, off, m, K, h | .exit _, Y, n, off, m, K, h | .ret, Y, n, off, m, K, h | .scope _, Y, n, off, m, K, h | .label _, Y, n, off, m, K, h | .goto _, Y, n, off, m, K, h | .refuse _, Y, n, off, m, K, h => by unfold allY1 at h; cases h
theorem all_sub {lp : Lp R} {key2 : Nat} {lp2 : Lp R} (h2 : lp2 ∈ allY P C m0 L T key2 lp.d lp.Y lp.n lp.off lp.m lp.c (andThen (L key) lp.K)) : ∀ {d : Nat} {c : Code} {Y : Option (Yd R)} {n off m : Nat} {K : KX R}, lp ∈ allY P C m0 L T key d Y n off m c K → lp2 ∈ allY P C m0 L T key2 d Y n off m c K
  | 0, c, Y, n, off, m, K, h => by
    rw [allY_eq] at h ⊢
    exact all_sub1 (eva := evaD P C m0 L T 0) h2 (fun _ _ _ _ _ _ => by rw [allY_eq]) (fun _ _ _ _ _ _ h => by cases h) h
  | d + 1, c, Y, n, off, m, K, h => by
    rw [allY_eq] at h ⊢
    exact all_sub1 (eva := evaD P C m0 L T (d + 1)) h2 (fun _ _ _ _ _ _ => by rw [allY_eq]) (fun y n off m c K h => all_sub (d := d) h2 h) h
theorem all_ok1 (hT : TOK P T) {ev : Ev R} {eva : EvA R} {d : Nat} {lp : Lp R} (hev : ∀ y n off m c K, codeOk n c = true → lp ∈ eva y n off m c K → codeOk lp.n lp.c = true) : ∀ {c : Code} {Y : Option (Yd R)} {n off m : Nat} {K : KX R}, codeOk n c = true → lp ∈ allY1 P C m0 L T ev eva d Y n off m key c K → codeOk lp.n lp.c = true
  | .seq a b, Y, n, off, m, K, hok, h => by
    simp only [codeOk, Bool.and_eq_true] at hok
    unfold allY1 at h
    cases Y with
    | none =>
      rcases List.mem_append.1 h with h | h
      · exact all_ok1 (c := a) hT hev hok.1 h
      · exact all_ok1 (c := b) hT hev hok.2 h
    | some y =>
      simp only at h
      cases hu : yieldP (.seq a b) with
      | some u => rw [hu] at h; cases h
      | none =>
        rw [hu] at h
        rcases List.mem_append.1 h with h | h
        · exact all_ok1 (c := a) hT hev hok.1 h
        · exact all_ok1 (c := b) hT hev hok.2 h
  | .cond _ a b, Y, n, off, m, K, hok, h => by
    simp only [codeOk, Bool.and_eq_true] at hok
    unfold allY1 at h
    rcases List.mem_append.1 h with h | h
    · exact all_ok1 (c := a) hT hev hok.2.1 h
    · exact all_ok1 (c := b) hT hev hok.2.2 h
  | .block id c, Y, n, off, m, K, hok, h => by
    unfold allY1 at h
    exact all_ok1 (c := c) hT hev hok h
  | .loop c, Y, n, off, m, K, hok, h => by
    unfold allY1 at h
    rcases List.mem_append.1 h with h | h
    · cases hb : Nat.beq (off + headId c) key with
      | false => rw [hb] at h; cases h
      | true =>
        rw [hb] at h
        have := List.mem_singleton.1 h
        subst this
        exact hok
    · exact all_ok1 (c := c) hT hev hok h
  | .rangeFunc f ps assign body, Y, n, off, m, K, hok, h => by
    unfold allY1 at h
    cases hg : T (off + headId body) with
    | none => rw [hg] at h; cases h
    | some g =>
      rw [hg] at h
      obtain ⟨fn, _, _, _, h4, _⟩ := hT _ g hg
      exact hev _ _ _ _ _ _ h4 h
  | .skip, Y, n, off, m, K, hok, h | .region .., Y, n, off, m, K, hok, h | .exit _, Y, n, off, m, K, hok, h | .ret, Y, n, off, m, K, hok, h | .scope _, Y, n, off, m, K, hok, h | .label _, Y, n, off, m, K, hok, h | .goto _, Y, n, off, m, K, hok, h | .refuse _, Y, n, off, m, K, hok, h => by unfold allY1 at h; cases h
theorem all_ok (hT : TOK P T) {lp : Lp R} : ∀ {d : Nat} {c : Code} {Y : Option (Yd R)} {n off m : Nat} {K : KX R}, codeOk n c = true → lp ∈ allY P C m0 L T key d Y n off m c K → codeOk lp.n lp.c = true
  | 0, c, Y, n, off, m, K, hok, h => by
    rw [allY_eq] at h
    exact all_ok1 hT (fun _ _ _ _ _ _ _ h => by cases h) hok h
  | d + 1, c, Y, n, off, m, K, hok, h => by
    rw [allY_eq] at h
    exact all_ok1 hT (fun y n off m c K hok h => all_ok hT (d := d) hok h) hok h
structure LeLp (r : R) (a b : Lp R) : Prop where
  d : a.d = b.d
  Y : LeY r a.Y b.Y
  n : a.n = b.n
  off : a.off = b.off
  m : a.m = b.m
  c : a.c = b.c
  K : LeX r a.K b.K
def LeLs (r : R) : List (Lp R) → List (Lp R) → Prop
  | [], [] => True
  | a :: l, b :: l' => LeLp r a b ∧ LeLs r l l'
  | _, _ => False
theorem LeLs.app : ∀ {a a' b b' : List (Lp R)}, LeLs r a a' → LeLs r b b' → LeLs r (a ++ b) (a' ++ b')
  | [], [], b, b', _, h => h
  | x :: a, y :: a', b, b', ⟨h1, h2⟩, h => ⟨h1, LeLs.app h2 h⟩
  | [], _ :: _, _, _, h, _ => h.elim
  | _ :: _, [], _, _, h, _ => h.elim
def LeEva (r : R) (e e' : EvA R) : Prop := ∀ y y', LeY r (some y) (some y') → ∀ n off m c K K', LeX r K K' → LeLs r (e y n off m c K) (e' y' n off m c K')
variable {C' : CallJ PK} (hN : CallNat C C')
include hN
theorem recY_le {Y Y' : Option (Yd R)} {sh n off : Nat} {g : Rg} {ps : Array Nat} {assign body : Code} {K K' : KX R} (hY : LeY r Y Y') (h : LeX r K K') : LeY r (some (recY P C m0 Y sh n off g ps assign body K)) (some (recY P C m0 Y' sh n off g ps assign body K')) := by
  refine ⟨rfl, fun sh1 args st1 Kr Kr' h2 h3 => ?_⟩
  refine cond_mono h3 (fun h4 => ?_) fun h4 => h4
  have n1 : LeL r (fun _ _ => none) (fun _ _ => none) := fun _ _ h => h
  have n2 : LeEv r (fun _ _ _ _ _ _ => none) (fun _ _ _ _ _ _ => none) := fun _ _ _ _ _ _ _ _ _ _ h => h
  exact codeY1_mono hN (c := assign) (Y := none) (Y' := none) n1 n2 trivial (onlyN_mono fun st2 h5 => cond_mono h5 (fun h5 => codeY1_mono hN (c := body) n1 n2 hY (roundK_mono h2 h) h5) fun h5 => h5) h4
theorem all_mono1 {ev ev' : Ev R} {eva eva' : EvA R} {d : Nat} (hL : LeL r L L') (hE : LeEv r ev ev') (hA : LeEva r eva eva') : ∀ {c : Code} {Y Y' : Option (Yd R)} {n off m : Nat} {K K' : KX R}, LeY r Y Y' → LeX r K K' → LeLs r (allY1 P C m0 L T ev eva d Y n off m key c K) (allY1 P C m0 L' T ev' eva' d Y' n off m key c K')
  | .seq a b, Y, Y', n, off, m, K, K', hY, h => by
    unfold allY1
    cases Y with
    | none => cases Y' with
      | some _ => exact hY.elim
      | none => exact LeLs.app (all_mono1 hL hE hA (c := a) hY (h.then fun st' h1 => codeY1_mono hN (c := b) hL hE hY h h1)) (all_mono1 hL hE hA (c := b) hY h)
    | some y => cases Y' with
      | none => exact hY.elim
      | some y' =>
        simp only
        cases yieldP (.seq a b) with
        | some u => trivial
        | none => exact LeLs.app (all_mono1 hL hE hA (c := a) hY (h.then fun st' h1 => codeY1_mono hN (c := b) hL hE hY h h1)) (all_mono1 hL hE hA (c := b) hY h)
  | .cond _ a b, Y, Y', n, off, m, K, K', hY, h => by
    unfold allY1
    exact LeLs.app (all_mono1 hL hE hA (c := a) hY h) (all_mono1 hL hE hA (c := b) hY h)
  | .block id c, Y, Y', n, off, m, K, K', hY, h => by
    unfold allY1
    exact all_mono1 hL hE hA (c := c) hY h.blk
  | .loop c, Y, Y', n, off, m, K, K', hY, h => by
    unfold allY1
    refine LeLs.app ?_ (all_mono1 hL hE hA (c := c) hY (h.then (hL _)))
    cases Nat.beq (off + headId c) key with
    | true => exact ⟨⟨rfl, hY, rfl, rfl, rfl, rfl, h⟩, trivial⟩
    | false => trivial
  | .rangeFunc f ps assign body, Y, Y', n, off, m, K, K', hY, h => by
    unfold allY1
    cases T (off + headId body) with
    | none => trivial
    | some g => exact hA _ _ (recY_le hN hY h) _ _ _ _ _ _ (iterK_mono h)
  | .skip, _, _, _, _, _, _, _, _, _ | .region .., _, _, _, _, _, _, _, _, _ | .exit _, _, _, _, _, _, _, _, _, _ | .ret, _, _, _, _, _, _, _, _, _ | .scope _, _, _, _, _, _, _, _, _, _ | .label _, _, _, _, _, _, _, _, _, _ | .goto _, _, _, _, _, _, _, _, _, _ | .refuse _, _, _, _, _, _, _, _, _, _ => by unfold allY1; trivial
theorem evD_le (hL : LeL r L L') : ∀ d, LeEv r (evD P C m0 L T d) (evD P C m0 L' T d)
  | 0 => fun _ _ _ _ _ _ _ _ _ _ h => h
  | d + 1 => fun y y' h1 n off c st K K' h2 h3 => codeY_mono hN hL h1 h2 h3
theorem all_mono (hL : LeL r L L') : ∀ {d : Nat} {c : Code} {Y Y' : Option (Yd R)} {n off m : Nat} {K K' : KX R}, LeY r Y Y' → LeX r K K' → LeLs r (allY P C m0 L T key d Y n off m c K) (allY P C m0 L' T key d Y' n off m c K')
  | 0, c, Y, Y', n, off, m, K, K', hY, h => by
    rw [allY_eq, allY_eq]
    exact all_mono1 hN (eva := evaD P C m0 L T 0 key) (eva' := evaD P C m0 L' T 0 key) hL (evD_le hN hL 0) (fun _ _ _ _ _ _ _ _ _ _ => trivial) hY h
  | d + 1, c, Y, Y', n, off, m, K, K', hY, h => by
    rw [allY_eq, allY_eq]
    exact all_mono1 hN (eva := evaD P C m0 L T (d + 1) key) (eva' := evaD P C m0 L' T (d + 1) key) hL (evD_le hN hL (d + 1)) (fun y y' h1 n off m c K K' h2 => all_mono hL (d := d) h1 h2) hY h
theorem roundY_mono {mc d n : Nat} {c : Code} {K : KX R} {st : St} (hL : LeL r L L') (h : roundY P C m0 L T key mc d n c K st = some r) : roundY P C m0 L' T key mc d n c K st = some r := by
  have hm := all_mono (P := P) (T := T) (m0 := m0) (key := key) hN hL (d := d) (c := c) (Y := none) (Y' := none) (n := n) (off := 0) (m := m0) trivial (LeX.refl K)
  unfold roundY at h ⊢
  split at h
  · rename_i l heq
    rw [heq] at hm
    split
    · rename_i l' heq'
      rw [heq'] at hm
      obtain ⟨⟨h1, h2, h3, h4, h5, h6, h7⟩, _⟩ := hm
      rw [← h5]
      refine cond_mono h (fun h8 => ?_) fun h8 => h8
      rw [← h1, ← h3, ← h4, ← h6]
      exact codeY_mono hN hL h2 (h7.then (hL _)) h8
    · rename_i hne
      cases hl : allY P C m0 L' T key d none n 0 m0 c K with
      | nil => rw [hl] at hm; exact hm.elim
      | cons b l =>
        rw [hl] at hm
        cases l with
        | nil => exact (hne b hl).elim
        | cons b' l => exact hm.2.elim
  · cases h
end
end Go.Eng

namespace Go.Eng
variable {R : Type} {P : Program} {S S0 : Sc} {w0 w00 w w' : World} {E : En} {st : St} {A a : Act} {r : R} {δ : Dx} {κ : Kx} {ds : List Deferred}
theorem cutJ_inv {m : Nat} {slots : List Nat} {ps : VPL} {os : List OP} {F : ps.T → OPL.T os → Option R} (h : cutJ m slots ps os F st = some r) : ∃ x y, F x y = some r := by
  unfold cutJ at h
  split at h
  · rename_i st2 order x y hcan
    cases hrw : rwOK st2.H os order with
    | false => rw [hrw] at h; cases h
    | true => rw [hrw] at h; exact ⟨x, y, h⟩
  · cases h
theorem cutJ_mono {m : Nat} {slots : List Nat} {ps : VPL} {os : List OP} {F F' : ps.T → OPL.T os → Option R} (hF : ∀ x y, F x y = some r → F' x y = some r) (h : cutJ m slots ps os F st = some r) : cutJ m slots ps os F' st = some r := by
  unfold cutJ at h ⊢
  split at h
  · exact cond_mono h (hF _ _) fun h => h
  · cases h
theorem LofY_inv {k : Nat} : ∀ {cuts : List (CutY R)} {n : Nat}, LofY k cuts n st = some r → ∃ c ∈ cuts, n = c.id ∧ cutJ c.m c.slots c.ps c.os (c.F k) st = some r
  | [], n, h => by cases h
  | c :: cuts, n, h => by
    have tail : LofY k cuts n st = some r → ∃ c' ∈ c :: cuts, n = c'.id ∧ cutJ c'.m c'.slots c'.ps c'.os (c'.F k) st = some r := fun h => by
      obtain ⟨c', h1, h2⟩ := LofY_inv h
      exact ⟨c', by simp [h1], h2⟩
    unfold LofY at h
    cases hb : Nat.beq n c.id with
    | false => rw [hb] at h; exact tail h
    | true =>
      rw [hb] at h; simp only [cond_true] at h
      cases hcan : canonJ c.m c.ps c.os (c.slots.map st.env) st with
      | none => rw [hcan] at h; exact tail h
      | some q =>
        obtain ⟨st2, order, x, y⟩ := q
        rw [hcan] at h; simp only at h
        cases hrw : rwOK st2.H c.os order with
        | false => rw [hrw] at h; exact tail h
        | true =>
          rw [hrw] at h
          refine ⟨c, by simp, Nat.eq_of_beq_eq_true hb, ?_⟩
          unfold cutJ
          rw [hcan]; simp only; rw [hrw]; exact h
theorem LofY_le {k : Nat} : ∀ {cuts : List (CutY R)}, (∀ c ∈ cuts, ∀ x y, c.F k x y = some r → c.F (k + 1) x y = some r) → LeL r (LofY k cuts) (LofY (k + 1) cuts)
  | [], h => fun n st h => by cases h
  | c :: cuts, h => fun n st h1 => by
    have tail : LofY k cuts n st = some r → LofY (k + 1) cuts n st = some r := LofY_le (fun c hc => h c (by simp [hc])) n st
    unfold LofY at h1 ⊢
    refine cond_mono h1 (fun h2 => ?_) tail
    split at h2
    · exact cond_mono h2 (h c (by simp) _ _) tail
    · exact tail h2
section
variable {C : CallJ R} {C' : CallJ PK} (hC : CallOK P C) (hN : CallNat C C') (hC' : CallOK P C') (hmo : P.follows .mixedOrders = true)
section
variable {m0 d n : Nat} {T : Nat → Option Rg} {cuts : List (CutY R)} {body : Code} {K : KX R}
include hN in
theorem F_mono (h0 : ∀ c ∈ cuts, ∀ x y, c.F 0 x y = none) (hstep : ∀ c ∈ cuts, ∀ k x y, c.F (k + 1) x y = roundY P C m0 (LofY k cuts) T c.id c.m d n body K (stAt c.slots c.ps c.os x y)) : ∀ k, ∀ c ∈ cuts, ∀ x y, c.F k x y = some r → c.F (k + 1) x y = some r
  | 0, c, hc, x, y, h => by rw [h0 c hc] at h; cases h
  | k + 1, c, hc, x, y, h => by
    rw [hstep c hc] at h ⊢
    exact roundY_mono hN (LofY_le (F_mono h0 hstep k)) h
end
include hC hN hC' hmo
theorem evD_ok {L : LT R} {T : Nat → Option Rg} (hT : TOK P T) : ∀ d, EvOK P S0 w00 r L (evD P C S0.m L T d) (fun key => evaD P C S0.m L T d key)
  | 0 => noEv_ok
  | d + 1 => fun y n off m c hok hm δ κ K Q st h1 h2 h3 hwf hQ hY hAS hAB hJ hL S w0 E a w hc hR hs => by
    have hJ : codeY P C S0.m L T d (some y) 0 n off c st K = some r := hJ
    rw [codeY_eq] at hJ
    have := codeY1_ok hC hN hC' hmo hT (evD_ok hT d) hok (d := d) (m := m) (.inl ⟨h1, rfl, h3, fun key lp hlp => hL key lp (by show lp ∈ allY P C S0.m L T key d (some y) n off m c K; rw [allY_eq]; exact hlp)⟩) h2 (by rw [h3]; exact hm) hwf hQ hY hAS hAB hJ hc hR hs
    rwa [h1] at this
theorem codeYd_ok {L : LT R} {T : Nat → Option Rg} (hT : TOK P T) {d n off m : Nat} {c : Code} {Y : Option (Yd R)} {K : KX R} {Q : Exit → Act → World → Prop} (hok : codeOk n c = true) (h1 : δ.ro = none) (h2 : δ.n = n) (h3 : δ.m = m) (hm : S0.m ≤ m) (hL : ∀ key, ∀ lp ∈ allY P C S0.m L T key d Y n off m c K, LKX P S0 w00 r L key lp)
    (hwf : WfD δ κ) (hQ : KOY S0 w00 δ r K Q) (hY : YH S0 w00 P r δ κ 0 Y) (hAS : AS w00 δ) (hAB : ABO w00 δ κ Q) (hJ : codeY P C S0.m L T d Y 0 n off c st K = some r) (hc : Cx S0 w00 δ a.defers S w0) (hR : Rep S w0 E st (exA δ a) w) (hs : a.tmps.size = δ.n) : c.wpIn (wideR none) 0 P Q a w := by
  rw [codeY_eq] at hJ
  have := codeY1_ok hC hN hC' hmo hT (evD_ok hC hN hC' hmo hT d) hok (d := d) (m := m) (.inl ⟨h1, rfl, h3, fun key lp hlp => hL key lp (by rw [allY_eq]; exact hlp)⟩) h2 (by rw [h3]; exact hm) hwf hQ hY hAS hAB hJ hc hR hs
  rwa [h1] at this
omit hC hN hC' hmo in
theorem YH.le {Y Y' : Option (Yd R)} {sh : Nat} (h : LeY r Y Y') (k : YH S0 w00 P r δ κ sh Y') : YH S0 w00 P r δ κ sh Y := by
  cases Y with
  | none => trivial
  | some y => cases Y' with
    | none => exact h.elim
    | some y' =>
      obtain ⟨hg, hrun⟩ := h
      intro δ' κ' sh' hs hw args st Kres hr S w0 E a w us hc hR hsz hus
      obtain ⟨l, f, tmps, asg, bdy, q1, q2, q3⟩ := k δ' κ' sh' hs hw args st Kres (hrun _ _ _ _ _ (LeS.refl _) hr) S w0 E a w us hc hR hsz hus
      exact ⟨l, f, tmps, asg, bdy, by rw [hg]; exact q1, q2, q3⟩
theorem loopsY_ok {T : Nat → Option Rg} (hT : TOK P T) {d n : Nat} {cuts : List (CutY R)} {body : Code} {K : KX R} (hok : codeOk n body = true) (h0 : ∀ c ∈ cuts, ∀ x y, c.F 0 x y = none)
    (hstep : ∀ c ∈ cuts, ∀ k x y, c.F (k + 1) x y = roundY P C S0.m (LofY k cuts) T c.id c.m d n body K (stAt c.slots c.ps c.os x y)) : ∀ k key, ∀ lp ∈ allY P C S0.m (LofY k cuts) T key d none n 0 S0.m body K, LKX P S0 w00 r (LofY k cuts) key lp
  | 0, key, lp, hlp => fun δ κ Q st _ _ _ _ _ _ _ _ _ hJ => by
    obtain ⟨c, hc, _, hcut⟩ := LofY_inv hJ
    obtain ⟨x, y, hF⟩ := cutJ_inv hcut
    rw [h0 c hc] at hF; cases hF
  | k + 1, key, lp, hlp => fun δ κ Q st hro hn hm hS hwf hQ hY hAS hAB hJ S w0 E a w hc hR hs => by
    obtain ⟨c, hcm, rfl, hcut⟩ := LofY_inv hJ
    have hle : LeL r (LofY k cuts) (LofY (k + 1) cuts) := LofY_le (F_mono hN h0 hstep k)
    have round : ∀ x y, c.F (k + 1) x y = some r → ∃ lp', LeLp r lp' lp ∧ lp'.m = c.m ∧ lp' ∈ allY P C S0.m (LofY k cuts) T c.id d none n 0 S0.m body K ∧ codeY P C S0.m (LofY k cuts) T lp'.d lp'.Y 0 lp'.n lp'.off lp'.c (stAt c.slots c.ps c.os x y) (andThen (LofY k cuts c.id) lp'.K) = some r := fun x y hF => by
      rw [hstep c hcm] at hF
      unfold roundY at hF
      split at hF
      · rename_i l heq
        have hl := all_mono (P := P) (T := T) (m0 := S0.m) (key := c.id) hN hle (d := d) (c := body) (Y := none) (Y' := none) (n := n) (off := 0) (m := S0.m) trivial (LeX.refl K)
        rw [heq] at hl
        cases hb : Nat.beq l.m c.m with
        | false => rw [hb] at hF; cases hF
        | true =>
          rw [hb] at hF
          refine ⟨l, ?_, Nat.eq_of_beq_eq_true hb, by rw [heq]; simp, hF⟩
          cases hx : allY P C S0.m (LofY (k + 1) cuts) T c.id d none n 0 S0.m body K with
          | nil => rw [hx] at hlp; cases hlp
          | cons b l' =>
            rw [hx] at hl hlp
            cases l' with
            | cons b' l'' => exact hl.2.elim
            | nil =>
              have := List.mem_singleton.1 hlp
              subst this
              exact hl.1
      · cases hF
    obtain ⟨x, y, hF⟩ := cutJ_inv hcut
    obtain ⟨lp1, h1, h2, _⟩ := round x y hF
    have hcmS : c.m = S.m := by rw [hc.m, hm, ← h1.m, h2]
    rw [hcmS] at hcut
    obtain ⟨E', x, y, hF, hR'⟩ := cut_rep hR hcut
    obtain ⟨l, h1, h2, h3, h4⟩ := round x y hF
    have ih := loopsY_ok hT hok h0 hstep k
    have hQl : KOY S0 w00 δ r l.K Q := fun e st hK => hQ e st (h1.K e st hK)
    have hYl : YH S0 w00 P r δ κ 0 l.Y := YH.le h1.Y hY
    have hnl : δ.n = l.n := by rw [hn, h1.n]
    have hml : δ.m = l.m := by rw [hm, h1.m]
    rw [← h1.c]
    refine codeYd_ok hC hN hC' hmo hT (all_ok hT hok h3) hro hnl hml (by rw [h1.m]; exact hS) (fun key2 lp2 h5 => ih key2 lp2 (all_sub h5 h3)) hwf ?_ hYl hAS hAB.then h4 hc hR' hs
    exact hQl.then fun st hK S w0 E a w hc hR hs => lwI_of_round (ih c.id l h3 δ κ Q st hro hnl hml (by rw [h1.m]; exact hS) hwf hQl hYl hAS hAB hK S w0 E a w hc hR hs)
end
def ItOK (P : Program) (g : Rg) (fn : Func) : Prop := P.funcs[g.f]? = some fn ∧ fn.body = some g.code ∧ fn.ntmps = g.nt ∧ codeOk g.nt g.code = true ∧ fn.results.toList = [] ∧ fn.name ≠ "runtime.NumGoroutine"
theorem tof_nil : TOK P (Tof []) := fun key g h => by cases h
theorem tof_cons {k : Nat} {g : Rg} {l : List (Nat × Rg)} {fn : Func} (h : ItOK P g fn) (hl : TOK P (Tof l)) : TOK P (Tof ((k, g) :: l)) := fun key g' hg => by
  unfold Tof at hg
  cases hb : Nat.beq key k with
  | true => rw [hb] at hg; cases hg; exact ⟨fn, h⟩
  | false => rw [hb] at hg; exact hl key g' hg
theorem fnY_ok {alts : List Alt} {C : CallJ (AT alts)} {C' : CallJ PK} (hC : CallOK P C) (hN : CallNat C C') (hC' : CallOK P C') (hmo : P.follows .mixedOrders = true) {f : FuncId} {fn : Func} {body : Code} {pin : VPL} {os : List OP} {cuts : List (CutY (AT alts))} {k d : Nat} {T : Nat → Option Rg} {F : pin.T → OPL.T os → Option (AT alts)}
    (hf : P.funcs[f]? = some fn) (hb : fn.body = some body) (hname : fn.name ≠ "runtime.NumGoroutine") (hd : codeOk fn.ntmps body = true) (hlen : ∀ x, (pin.mk x).length ≤ fn.ntmps) (hT : TOK P T)
    (h0 : ∀ c ∈ cuts, ∀ x y, c.F 0 x y = none) (hstep : ∀ c ∈ cuts, ∀ k x y, c.F (k + 1) x y = roundY P C os.length (LofY k cuts) T c.id c.m d fn.ntmps body (endY P os.length fn.results.toList alts) (stAt c.slots c.ps c.os x y))
    (hF : ∀ x y, F x y = codeY P C os.length (LofY k cuts) T d none 0 fn.ntmps 0 body (st0 pin os x y) (endY P os.length fn.results.toList alts)) : FnOK P f pin os alts F := by
  intro x y z hz S w E margs hm hR hargs
  refine ⟨fn, hf, by rw [hb]; rfl, hname, ?_⟩
  rw [hF, ← hm] at hz
  have hl : margs.length = (pin.mk x).length := RVL_length hargs
  obtain ⟨δ, hδ⟩ : ∃ δ : Dx, δ = ⟨none, fn.ntmps, #[], S.m, fun _ => none, fun _ => none, none⟩ := ⟨_, rfl⟩
  have hsz : (margs.toArray ++ Array.replicate (fn.ntmps - margs.toArray.size) undef).size = fn.ntmps := by have := hlen x; simp; omega
  have e0 : ∀ a : Act, exA δ a = ⟨a.tmps, []⟩ := fun a => by unfold exA; rw [hδ]; simp
  have t0 : Top S w δ [] (st0 pin os x y) (exA δ ⟨margs.toArray ++ Array.replicate (fn.ntmps - margs.toArray.size) undef, []⟩) w E :=
    { rep := by rw [e0]; exact { hR with env := arg_ok _ hargs, defers := rfl }
      hro := fun id o h1 _ => by
        rw [hm]
        exact (mk_row h1).1
      mle := by rw [hδ]; exact Nat.le_of_eq hm
      pins := fun g l h => by rw [hδ] at h; cases h
      prot := by rw [prM_nil, hδ]; intro k o h; cases h
      marks := marks_nil }
  have hδm : δ.m = S.m := by rw [hδ]
  obtain ⟨c1, r1⟩ := t0.enter (Nat.le_of_eq hδm.symm)
  have hstep' : ∀ c ∈ cuts, ∀ k x y, c.F (k + 1) x y = roundY P C S.m (LofY k cuts) T c.id c.m d fn.ntmps body (endY P S.m fn.results.toList alts) (stAt c.slots c.ps c.os x y) := by rw [hm]; exact hstep
  refine (callsIn_wide (n := 0)).1 (callsIn_of_wp_marks (F := wideR none) (n := 0) hf hb trivial ?_)
  refine codeYd_ok hC hN hC' hmo (κ := ⟨fun _ => none, []⟩) hT hd (by rw [hδ]) (by rw [hδ]) hδm (Nat.le_refl _) (loopsY_ok hC hN hC' hmo hT hd h0 hstep' k) ⟨fun k o h => (by cases h), fun k h => (List.not_mem_nil h).elim, fun l core h => by rw [hδ] at h; cases h⟩ ?_ trivial (fun l core h => by rw [hδ] at h; cases h) (fun a w ⟨_, _, h, _⟩ => by rw [hδ] at h; cases h) hz c1 r1 (by rw [hδ]; exact hsz)
  intro e st hK S' w0' E' a w' hc hRep hn
  have fin : ∀ vs, okJ S.m st = true → resJ P st fn.results.toList = some vs → retA S.m (oneJ vs) st alts id = some z → LeavesInM (wideR none) 0 P fn a.tmps (fun e w' => ∃ v, e = .returned v ∧ ∃ E' q, altGet alts z = some q ∧ RV E' (listAt (OPL.mk q.1.2 q.2.2)) (q.1.1.mk q.2.1) v ∧ RepH S w E' (listAt (OPL.mk q.1.2 q.2.2)) q.1.2.length w') a.defers .returning w' := by
    intro vs hok h1 h2
    have t1 := hc.leave hRep (ok_ro hok hRep.fresh)
    refine leavesM (I := fun ds w' => Top S w δ ds st (exA δ a) w' (E'.wim (keepIm E' st.H))) (fun k ds w t => t.take) ?_ _ _ t1.marks.form t1
    intro w3 t2
    have hR3 := t2.rep
    rw [e0] at hR3
    obtain ⟨v, g1, g2⟩ := results_ok (P := P) hR3 h1
    obtain ⟨z', q, E'', e1, e2, e3, e4⟩ := retA_ok h2 hR3.toRepH
    cases e1
    exact ⟨v, g1, v, rfl, E'', q, e2, e4 v g2, e3⟩
  cases hok : okJ S.m st with
  | false => unfold endY at hK; rw [hok] at hK; cases hK
  | true =>
  unfold endY at hK; rw [hok] at hK; simp only [cond_true] at hK
  cases e with
  | exit id => cases hK
  | normal =>
    simp only [endJ] at hK
    split at hK
    · rename_i vs h1; exact fin vs hok h1 hK
    · cases hK
  | ret =>
    simp only [endJ] at hK
    split at hK
    · rename_i vs h1; exact fin vs hok h1 hK
    · cases hK
end Go.Eng

