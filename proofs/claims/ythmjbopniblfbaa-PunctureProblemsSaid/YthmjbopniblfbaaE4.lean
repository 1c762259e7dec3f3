/- The engine, part 4: a second reading of the code over values and lists, and that it is right. No condition. -/
import Derived.Test.YthmjbopniblfbaaE3
import Derived.ChangeOld
import Derived.ChangeCalls
import Derived.SizedLaws
import Derived.OpenShut
import Derived.ChangeShapes
set_option linter.unusedVariables false
set_option linter.unusedSimpArgs false
/- A law's row, from what its function comes to in plain Lean. No condition. -/
namespace Go.Eng
open Go.RowKit Go.ChangeShapes Go.WideShapes
def vpS : SK → VP
  | .int k => .int k
  | .bool => .bool
  | .str => .str
  | .lst k => .lst true (.one (.int k))
  | .arr k n => .arr k n
def vplS : List SK → VPL
  | [] => .nil
  | s :: r => .cons (vpS s) (vplS r)
theorem vp_of {E : En} {H : Nat → Option JObj} {s : SK} {x : s.T} {us : List Value} (h : SKR E s x us) (o : okS s x) : ∃ y : (vpS s).T, RC E H ((vpS s).mk y) us ∧ okV (vpS s) y := by
  cases s with
  | int k => exact ⟨x, h, o⟩
  | bool => exact ⟨x, h, trivial⟩
  | str => exact ⟨x, h, o⟩
  | lst k =>
    obtain ⟨h1, h2, base, cap, rfl, h3, h4⟩ := h
    exact ⟨x, ⟨h2, base, cap, rfl, h3, _, EKL_int.2 ⟨rfl, h1⟩, h4⟩, o.1, fun y hy => o.2 y hy⟩
  | arr k n => exact ⟨x, h, o⟩
theorem vpl_of {E : En} {H : Nat → Option JObj} : ∀ {ss : List SK} {x : RT ss} {us : List Value}, RTR E ss x us → okR ss x → ∃ y : (vplS ss).T, RCs E H ((vplS ss).mk y) us ∧ okVL (vplS ss) y
  | [], x, us, h, o => by simp only [RTR] at h; subst h; exact ⟨(), rfl, trivial⟩
  | [s], x, us, h, o => by
    obtain ⟨y, h1, h2⟩ := vp_of (H := H) h o
    exact ⟨(y, ()), ⟨us, [], by simp, h1, rfl⟩, h2, trivial⟩
  | s :: t :: r, x, us, h, o => by
    obtain ⟨a, b, rfl, h1, h2⟩ := h
    obtain ⟨y, g1, g2⟩ := vp_of (H := H) h1 o.1
    obtain ⟨z, g3, g4⟩ := vpl_of (H := H) h2 o.2
    exact ⟨(y, z), ⟨a, b, rfl, g1, g3⟩, g2, g4⟩
def elemC (P : Program) (e : TypeId) : Option EK :=
  match P.underlying e with
  | some (.struct _) => match sksC P 8 e with
    | some ss => cond (Nat.beq (P.cellsOf e) (sksW ss) && Nat.ble 1 (sksW ss) && Nat.ble 1 (P.bytesOf e)) (some (.many ss)) none
    | none => none
  | _ => match sksC P 8 e with
    | some [s] => cond (Nat.beq (P.cellsOf e) s.w && Nat.ble 1 s.w && Nat.ble 1 (P.bytesOf e)) (some (.one s)) none
    | _ => none
def argC (P : Program) (t : TypeId) : Option VP :=
  match P.underlying t with
  | some (.struct _) => match sksC P 8 t with
    | some ss => some (.agg (vplS ss))
    | none => none
  | some (.array ..) => match intsC P 4 t with
    | some (k, c) => some (.arr k c)
    | none => none
  | some (.slice e) => match elemC P e with
    | some ek => some (.lst true ek)
    | none => none
  | some (.int k) => some (.int k)
  | some .bool => some .bool
  | some .string => some .str
  | _ => none
def argsC (P : Program) : List TypeId → Option VPL
  | [] => some .nil
  | t :: r => match argC P t, argsC P r with
    | some p, some q => some (.cons p q)
    | _, _ => none
section
variable {H : Type} {enc : TypeId × Value → H} {P : Program} {W W' : World} {sp : Nat → Bool} {held : Bool}
theorem elem_ok {e : TypeId} {ek : EK} (h : elemC P e = some ek) : 1 ≤ ek.w ∧ P.cellsOf e = ek.w ∧ 1 ≤ P.bytesOf e ∧ ∀ fuel us (y : DataW H × List MemPlace), DataW.trod enc P W 0 sp held fuel e us = some y → (∀ n ∈ y.1.weights P e, n ≤ reachBytes) → ∃ x : ek.T, EKR (E0 W) ek x us ∧ okE ek x := by
  unfold elemC at h
  split at h
  · split at h
    · rename_i ss hs
      cases hb : (Nat.beq (P.cellsOf e) (sksW ss) && Nat.ble 1 (sksW ss) && Nat.ble 1 (P.bytesOf e)) with
      | false => rw [hb] at h; cases h
      | true =>
        rw [hb] at h; cases h
        simp only [Bool.and_eq_true] at hb
        exact ⟨Nat.le_of_ble_eq_true hb.1.2, Nat.eq_of_beq_eq_true hb.1.1, Nat.le_of_ble_eq_true hb.2, fun fuel us y hy hz => open_sks hs hy hz⟩
    · cases h
  · split at h
    · rename_i s hs
      cases hb : (Nat.beq (P.cellsOf e) s.w && Nat.ble 1 s.w && Nat.ble 1 (P.bytesOf e)) with
      | false => rw [hb] at h; cases h
      | true =>
        rw [hb] at h; cases h
        simp only [Bool.and_eq_true] at hb
        exact ⟨Nat.le_of_ble_eq_true hb.1.2, Nat.eq_of_beq_eq_true hb.1.1, Nat.le_of_ble_eq_true hb.2, fun fuel us y hy hz => open_sks hs hy hz⟩
    · cases h
theorem open_arg {t : TypeId} {v : Value} {d : DataW H} {ps : List MemPlace} {p : VP} {r : Reach} {b0 : Nat} (hp : argC P t = some p) (hval : Value.okWide P W r b0 t v) (hd : DataW.Trod enc P W 0 sp held t v d ps) (hz : ∀ n ∈ d.weights P t, n ≤ reachBytes) :
    ∃ x : p.T, RV (E0 W) (fun _ => none) (p.mk x) v ∧ okV p x := by
  obtain ⟨fuel, hf⟩ := hd
  unfold argC at hp
  unfold Value.okWide at hval
  split at hp
  · rename_i fs hu
    rw [hu] at hval
    obtain ⟨cs, rfl, _, _⟩ := hval
    split at hp
    · rename_i ss hs
      cases hp
      obtain ⟨y, h1, h2⟩ := open_sks hs hf hz
      obtain ⟨z, g1, g2⟩ := vpl_of (H := fun _ => none) h1 h2
      exact ⟨z, ⟨cs, rfl, g1⟩, g2⟩
    · cases hp
  · rename_i m e hu
    rw [hu] at hval
    obtain ⟨cs, rfl, _, _⟩ := hval
    split at hp
    · rename_i k c hi
      cases hp
      obtain ⟨l, h1, h2, h3⟩ := open_ints hi hf
      exact ⟨l, ⟨cs, rfl, h1, h2, h3⟩, h2, h3⟩
    · cases hp
  · rename_i e hu
    rw [hu] at hval
    split at hp
    · rename_i ek he
      cases hp
      have hone : v.cells.toList = [v] := by
        cases v with
        | agg cs => simp only [Cell.okWide, Cell.ok, hu] at hval
        | _ => rfl
      rw [hone] at hf
      obtain ⟨e1, e2, e3, e4⟩ := elem_ok (H := H) (enc := enc) (W := W) (sp := sp) (held := held) he
      obtain ⟨l, h1, h2, base, cap, h3, h4, vs, h5, h6⟩ := open_lst (ek := ek) hu e1 rfl e2 e3 (fun fuel us y hy _ hz => e4 fuel us y hy hz) hz hf
      simp only [List.cons.injEq, and_true] at h3
      subst h3
      exact ⟨l, ⟨h1, base, cap, rfl, h4, vs, h5, h6⟩, h2⟩
    · cases hp
  · rename_i k hu
    cases hp
    rw [hu] at hval
    have hone : v.cells.toList = [v] := by
      cases v with
      | agg cs => simp only [Cell.okWide, Cell.ok, hu] at hval
      | _ => rfl
    rw [hone] at hf
    obtain ⟨y, h1, h2⟩ := open_sks (n := 1) (ss := [.int k]) (by simp only [sksC, hu]) hf hz
    obtain ⟨h3, h4⟩ := h1
    simp only [List.cons.injEq, and_true] at h3
    subst h3
    exact ⟨y, ⟨rfl, h4⟩, h2⟩
  · rename_i hu
    cases hp
    rw [hu] at hval
    have hone : v.cells.toList = [v] := by
      cases v with
      | agg cs => simp only [Cell.okWide, Cell.ok, hu] at hval
      | _ => rfl
    rw [hone] at hf
    obtain ⟨y, h1, h2⟩ := open_sks (n := 1) (ss := [.bool]) (by simp only [sksC, hu]) hf hz
    have h3 : [v] = [.bool y] := h1
    simp only [List.cons.injEq, and_true] at h3
    subst h3
    exact ⟨y, rfl, trivial⟩
  · rename_i hu
    cases hp
    rw [hu] at hval
    have hone : v.cells.toList = [v] := by
      cases v with
      | agg cs => simp only [Cell.okWide, Cell.ok, hu] at hval
      | _ => rfl
    rw [hone] at hf
    obtain ⟨y, h1, h2⟩ := open_sks (n := 1) (ss := [.str]) (by simp only [sksC, hu]) hf hz
    obtain ⟨s, h3, h4, h5⟩ := h1
    simp only [List.cons.injEq, and_true] at h3
    subst h3
    exact ⟨y, ⟨s, rfl, h4, h5⟩, h2⟩
  · cases hp
theorem open_args {r : Reach} {b0 : Nat} : ∀ {ts : List TypeId} {vs : List Value} {ds : List (DataW H)} {ps : List MemPlace} {pin : VPL}, argsC P ts = some pin → (∀ (j : Nat) t v, ts[j]? = some t → vs[j]? = some v → Value.okWide P W r b0 t v) →
    DataW.TrodAll enc P W 0 sp held ts vs ds ps → (∀ n ∈ DataW.weightsEach P ts ds, n ≤ reachBytes) → ∃ x : pin.T, RVL (E0 W) (fun _ => none) (pin.mk x) vs ∧ okVL pin x
  | [], vs, ds, ps, pin, hp, hv, h, hz => by
    cases hp
    obtain ⟨rfl, rfl, rfl⟩ := trodAll_nil h
    exact ⟨(), rfl, trivial⟩
  | t :: ts, vs, ds, ps, pin, hp, hv, h, hz => by
    simp only [argsC] at hp
    split at hp
    · rename_i p q hp1 hq
      cases hp
      obtain ⟨v, vs', d, ds', p', q', rfl, rfl, rfl, h1, h2⟩ := trodAll_cons h
      simp only [DataW.weightsEach, List.mem_append] at hz
      obtain ⟨x, g1, g2⟩ := open_arg hp1 (hv 0 t v rfl rfl) h1 (fun n hn => hz n (.inl hn))
      obtain ⟨y, g3, g4⟩ := open_args hq (fun j t v ht hv' => hv (j + 1) t v (by simpa using ht) (by simpa using hv')) h2 (fun n hn => hz n (.inr hn))
      exact ⟨(x, y), ⟨v, vs', rfl, g1, g3⟩, g2, g4⟩
    · cases hp
theorem trodAll_below (hl : laidOutB P = true) (hb : Below W.heap.size W W') : ∀ {ts : List TypeId} {vs : List Value} {ds : List (DataW H)} {ps : List MemPlace}, (∀ t ∈ ts, P.readableRec t = true ∧ t < P.types.size) →
    DataW.TrodAll enc P W 0 (fun _ => true) true ts vs ds ps → (∀ x ∈ ps, x.block < W.heap.size) → DataW.TrodAll enc P W' 0 (fun b => decide (b < W.heap.size)) true ts vs ds ps
  | [], vs, ds, ps, hr, h, hlt => by
    obtain ⟨rfl, rfl, rfl⟩ := trodAll_nil h
    exact trodAll_mk0
  | t :: ts, vs, ds, ps, hr, h, hlt => by
    obtain ⟨v, vs', d, ds', p', q', rfl, rfl, rfl, h1, h2⟩ := trodAll_cons h
    obtain ⟨r1, r2⟩ := hr t (List.mem_cons_self ..)
    exact ⟨p', q', Below.trod hl r1 r2 h1 hb (fun x hx => hlt x (List.mem_append_left _ hx)), trodAll_below hl hb (fun t ht => hr t (List.mem_cons_of_mem _ ht)) h2 (fun x hx => hlt x (List.mem_append_right _ hx)), rfl⟩
end
/-- A law's row. -/
theorem law_lifted {C : Checked} {f : FuncId} {fn : Func} {s : ChangeSpec} {conds : List PathCond} {pin : VPL} {F : Nat → pin.T → OPL.T [] → Option (AT [(.bool, [])])} {tb : TypeId}
    (own : ownKnob C.prog.godebug = none) (noInit : C.prog.inits.idxOf? f = none) (hfn : C.prog.funcs[f]? = some fn) (hk : ∀ k, FnOK C.prog f pin [] [(.bool, [])] (F k)) (hargs : argsC C.prog fn.params.toList = some pin)
    (hvars : s.vars = []) (hres : fn.resultTypes = #[tb]) (htb : C.prog.underlying tb = some .bool) (hspec : ∀ (H : Type) (ds : List (DataW H)), ds.length = fn.params.toList.length → s.fn H ds = { results := [.lit (.bool true)], args := ds })
    (hl : laidOutB C.prog = true) (hrd : fn.params.toList.all (fun t => C.prog.readableRec t && Nat.blt t C.prog.types.size) = true) (plain : ∀ x, okVL pin x → ∃ k, F k x () = some (true, ()))
    (os : Os) (started : os.Started) (H : Type) (enc : TypeId × Value → H)
    (witness : ∃ (w : World) (tape : Tape) (i : Input), w.os = os ∧ (w.forCall tape i).Shaped C.prog ∧ i.vars = [] ∧ Input.okWide C.prog (w.forCall tape i) .any w.heap.size f i ∧
      s.pre6 enc C.prog fn conds false (w.forCall tape i).memory i.args ∧ Assume.holds {} C.prog (lone (Frame.enter C.prog f i.args .normal) [] (w.forCall tape i))) :
    ReturnsInHanded {} C os f .any (s.pre6 enc C.prog fn conds false) (s.post enc C.prog fn false true false false) := by
  refine returnsInHanded_of_change_sized own started noInit hfn witness ?_
  intro W base args ds gs before hval hW hcnd hsz _
  have hW' := hW
  obtain ⟨p, q, hA, hV, rfl, hfz, hnd⟩ := hW
  rw [hvars] at hV
  obtain ⟨rfl, rfl⟩ := trodVars_none hV
  have hlen := (trodAll_length hA).2
  obtain ⟨x, hx, ox⟩ := open_args (P := C.prog) (W := W) hargs (fun j t v ht hv => hval j t v (by rw [← Array.getElem?_toList]; exact ht) (by rw [← Array.getElem?_toList]; exact hv)) hA (fun n hn => by
    have := List.all_eq_true.1 hsz n (by
      have e : s.plain.varTypes C.prog = [] := by simp [DataSpec.varTypes, ChangeSpec.plain, hvars]
      rw [e, List.append_nil, List.append_nil]; exact hn)
    simpa using this)
  obtain ⟨k, hk'⟩ := plain x ox
  have hcall := law_calls (hk k) hk' hx
  rw [Array.toArray_toList] at hcall
  refine hcall.mono fun e W' ⟨he, bel⟩ => ?_
  subst he
  refine ⟨_, rfl, ds, [], _, [], p, [], hW', ?_, ?_, ?_, bel.frame _, fun h => by cases h⟩
  · rw [hres, List.append_nil, hspec H ds (by omega)]; exact trodAll_mk1 (shut_bool htb _)
  · rw [List.append_nil, hspec H ds (by omega)]
    exact trodAll_below hl bel (fun t ht => by
      have := List.all_eq_true.1 hrd t ht
      rw [Bool.and_eq_true, Nat.blt_eq] at this; exact this) hA (fun x hx => DataW.TrodAll.lt hA x hx)
  · rw [hvars, List.append_nil, hspec H ds (by omega)]; exact rfl
end Go.Eng

