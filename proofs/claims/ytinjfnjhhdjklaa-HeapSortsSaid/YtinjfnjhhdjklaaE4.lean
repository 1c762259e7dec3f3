/- The engine, part 4: a second reading of the code over values and lists, and that it is right. No condition. -/
import Derived.Test.YtinjfnjhhdjklaaE3
import Derived.Handed
import Derived.ChangeMaps5
import Derived.Carry
import Derived.ChangeOld
import Derived.ChangeCalls
import Derived.SizedLaws
import Derived.OpenShut
import Derived.ChangeShapes
set_option linter.unusedVariables false
set_option linter.unusedSimpArgs false
/- The arguments of a law, as the engine sees them. No condition. -/
namespace Go.Eng
variable {H : Type} {enc : TypeId × Value → H} {P : Program} {W : World} {sp : Nat → Bool} {held : Bool}
theorem mapM_at {α β : Type} {f : α → Option β} : ∀ {l : List α} {ys : List β}, l.mapM f = some ys → ys.length = l.length ∧ ∀ (i : Nat) (x : α), l[i]? = some x → ∃ y, ys[i]? = some y ∧ f x = some y
  | [], ys, h => by simp at h; subst h; simp
  | a :: l, ys, h => by
    rw [List.mapM_cons] at h
    cases ha : f a with
    | none => rw [ha] at h; simp at h
    | some b =>
      rw [ha] at h
      cases hl : l.mapM f with
      | none => rw [hl] at h; simp at h
      | some bs =>
        rw [hl] at h
        simp at h
        subst h
        obtain ⟨h1, h2⟩ := mapM_at hl
        refine ⟨by simp [h1], fun i x hx => ?_⟩
        cases i with
        | zero => simp at hx; subst hx; exact ⟨b, rfl, ha⟩
        | succ i => simpa using h2 i x (by simpa using hx)
/-! ### what is known of what is given -/
def okS : (s : SK) → s.T → Prop
  | .int k, n => inK k n
  | .bool, _ => True
  | .str, l => l.length ≤ reachBytes
  | .lst k, l => l.length ≤ reachBytes ∧ ∀ x ∈ l, inK k x
  | .arr k n, l => l.length = n ∧ ∀ x ∈ l, inK k x
def okR : (ss : List SK) → RT ss → Prop
  | [], _ => True
  | [s], x => okS s x
  | s :: t :: r, x => okS s x.1 ∧ okR (t :: r) x.2
def okE : (e : EK) → e.T → Prop
  | .one s, x => okS s x
  | .many ss, x => okR ss x
mutual
def okV : (p : VP) → p.T → Prop
  | .int k, n => inK k n
  | .str, l => l.length ≤ reachBytes
  | .lst _ e, l => l.length ≤ reachBytes ∧ ∀ x ∈ l, okE e x
  | .arr k n, l => l.length = n ∧ ∀ x ∈ l, inK k x
  | .agg ps, x => okVL ps x
  | _, _ => True
def okVL : (p : VPL) → p.T → Prop
  | .nil, _ => True
  | .cons p r, x => okV p x.1 ∧ okVL r x.2
end
/-! ### plain parts -/
def intsC (P : Program) : Nat → TypeId → Option (IntKind × Nat)
  | 0, _ => none
  | n + 1, t => match P.underlying t with
    | some (.int k) => some (k, 1)
    | some (.array m e) => match intsC P n e with
      | some (k, c) => cond (Nat.beq (P.cellsOf e) c && Nat.beq (P.cellsOf t) (m * c)) (some (k, m * c)) none
      | none => none
    | _ => none
def fieldsC (P : Program) (g : TypeId → Option (List SK)) : List Field → Nat → Option (List SK)
  | [], _ => some []
  | f :: fs, off => cond (Nat.beq f.offset off) (match g f.type with
    | some a => cond (Nat.beq (P.cellsOf f.type) (sksW a)) (match fieldsC P g fs (off + sksW a) with
      | some b => some (a ++ b)
      | none => none) none
    | none => none) none
def sksC (P : Program) : Nat → TypeId → Option (List SK)
  | 0, _ => none
  | n + 1, t => match P.underlying t with
    | some (.int k) => some [.int k]
    | some .bool => some [.bool]
    | some .string => some [.str]
    | some (.slice e) => match P.underlying e with
      | some (.int k) => cond (Nat.beq (P.cellsOf e) 1 && Nat.ble 1 (P.bytesOf e)) (some [.lst k]) none
      | _ => none
    | some (.array m e) => match intsC P 4 t with
      | some (k, c) => some [.arr k c]
      | none => none
    | some (.struct fs) => match fieldsC P (sksC P n) fs.toList 0 with
      | some ss => cond (Nat.beq (P.cellsOf t) (sksW ss)) (some ss) none
      | none => none
    | _ => none
theorem RTR_append {E : En} : ∀ {ss ss' : List SK} {x : RT ss} {y : RT ss'} {a b : List Value}, RTR E ss x a → RTR E ss' y b → okR ss x → okR ss' y → ∃ z : RT (ss ++ ss'), RTR E (ss ++ ss') z (a ++ b) ∧ okR (ss ++ ss') z
  | [], ss', x, y, a, b, h, h', o, o' => by simp only [RTR] at h; subst h; exact ⟨y, h', o'⟩
  | [s], [], x, y, a, b, h, h', o, o' => by simp only [RTR] at h'; subst h'; exact ⟨x, by show RTR E [s] x (a ++ []); rw [List.append_nil]; exact h, o⟩
  | [s], t :: r, x, y, a, b, h, h', o, o' => ⟨(x, y), ⟨a, b, rfl, h, h'⟩, o, o'⟩
  | s :: t :: r, ss', x, y, a, b, h, h', o, o' => by
    obtain ⟨a1, a2, rfl, h1, h2⟩ := h
    obtain ⟨z, hz, oz⟩ := RTR_append h2 h' o.2 o'
    exact ⟨(x.1, z), ⟨a1, a2 ++ b, by rw [List.append_assoc], h1, hz⟩, o.1, oz⟩
theorem wf_inK {k : IntKind} {n : Int} (h : (Lit.int k n).wf = true) : inK k n := by
  simp only [Lit.wf, Bool.and_eq_true, decide_eq_true_eq] at h; exact h
theorem open_ints : ∀ {n : Nat} {t : TypeId} {k : IntKind} {c : Nat} {fuel : Nat} {cs : List Value} {x : DataW H × List MemPlace}, intsC P n t = some (k, c) → DataW.trod enc P W 0 sp held fuel t cs = some x →
    ∃ l : List Int, cs = l.map (Value.int k) ∧ l.length = c ∧ ∀ y ∈ l, inK k y
  | 0, t, k, c, fuel, cs, x, hc, h => by cases hc
  | n + 1, t, k, c, 0, cs, x, hc, h => by cases h
  | n + 1, t, k, c, fuel + 1, cs, x, hc, h => by
    simp only [intsC] at hc
    split at hc
    · rename_i k' hu
      cases hc
      unfold DataW.trod at h
      rw [hu] at h
      match cs, h with
      | [.int k1 m], h =>
        simp only [] at h
        split at h
        · rename_i hk; obtain ⟨rfl, hw⟩ := hk
          exact ⟨[m], rfl, rfl, fun y hy => by simp at hy; subst hy; exact wf_inK hw⟩
        · cases h
    · rename_i m e hu
      split at hc
      · rename_i k' c' he
        cases hb : (Nat.beq (P.cellsOf e) c' && Nat.beq (P.cellsOf t) (m * c')) with
        | false => rw [hb] at hc; cases hc
        | true =>
          rw [hb] at hc; cases hc
          rw [Bool.and_eq_true] at hb
          have b1 := Nat.eq_of_beq_eq_true hb.1
          have b2 := Nat.eq_of_beq_eq_true hb.2
          unfold DataW.trod at h
          rw [hu] at h
          simp only [] at h
          split at h
          · rename_i hlen
            rw [b2] at hlen
            rw [b1] at h
            cases hm : ((List.range m).mapM fun i => DataW.trod enc P W 0 sp held fuel e ((cs.drop (i * c')).take c')) with
            | none => rw [hm] at h; cases h
            | some ys =>
              obtain ⟨_, h2⟩ := mapM_at hm
              have key : ∀ d i, i + d = m → ∃ l : List Int, cs.drop (i * c') = l.map (Value.int k) ∧ l.length = d * c' ∧ ∀ y ∈ l, inK k y := by
                intro d
                induction d with
                | zero =>
                  intro i hi
                  refine ⟨[], ?_, by simp, by simp⟩
                  rw [show i = m by omega, List.drop_eq_nil_of_le (by omega)]; rfl
                | succ d ih =>
                  intro i hi
                  obtain ⟨l2, q1, q2, q3⟩ := ih (i + 1) (by omega)
                  obtain ⟨y, _, hy⟩ := h2 i i (by rw [List.getElem?_range (by omega)])
                  obtain ⟨l1, p1, p2, p3⟩ := open_ints he hy
                  refine ⟨l1 ++ l2, ?_, ?_, fun y hy => ?_⟩
                  · rw [List.map_append, ← p1, ← q1, show (i + 1) * c' = i * c' + c' by rw [Nat.succ_mul], ← List.drop_drop, List.take_append_drop]
                  · rw [List.length_append, p2, q2, Nat.succ_mul, Nat.add_comm]
                  · rcases List.mem_append.1 hy with hy | hy
                    · exact p3 y hy
                    · exact q3 y hy
              obtain ⟨l, q1, q2, q3⟩ := key m 0 (by omega)
              rw [Nat.zero_mul, List.drop_zero] at q1
              exact ⟨l, q1, q2, q3⟩
          · cases h
      · cases hc
    · cases hc
theorem ints_list {k : IntKind} : ∀ {c : List Value} {n : Nat}, c.length = n → (∀ (i : Nat) (v : Value), c[i]? = some v → ∃ m, v = Value.int k m ∧ inK k m) → ∃ l : List Int, c = l.map (Value.int k) ∧ l.length = n ∧ ∀ y ∈ l, inK k y
  | [], n, hn, h => ⟨[], rfl, by simpa using hn, by simp⟩
  | v :: c, n, hn, h => by
    obtain ⟨m, rfl, hm⟩ := h 0 v rfl
    obtain ⟨l, rfl, h2, h3⟩ := ints_list (c := c) (n := c.length) rfl fun i v hv => h (i + 1) v (by simpa using hv)
    exact ⟨m :: l, rfl, by simp at hn ⊢; omega, fun y hy => by
      rcases List.mem_cons.1 hy with rfl | hy
      · exact hm
      · exact h3 y hy⟩
theorem add_block (a : Addr) (n : Nat) : (a.add n).block = a.block := by unfold Addr.add; split <;> rfl
theorem add_off (a : Addr) (n : Nat) : (a.add n).off = a.off + n := by
  unfold Addr.add; split
  · rename_i h; subst h; rfl
  · rfl
/-- The cells of a slice's elements. -/
theorem cells_row {a : Addr} {c : Nat} {us : List Value} (h : W.cells? 0 a c = some us) : us.length = c ∧ ∀ j, j < c → ∃ C t fz, W.heap[a.block]? = some (.cells C t fz) ∧ (j = 0 → a.spot = none) ∧ C[a.off + j]? = us[j]? ∧ (us[j]?).isSome := by
  unfold World.cells? at h
  rw [if_pos (Nat.zero_le _)] at h
  obtain ⟨h1, h2⟩ := mapM_at h
  rw [List.length_range] at h1
  refine ⟨h1, fun j hj => ?_⟩
  obtain ⟨y, hy, hc⟩ := h2 j j (by rw [List.getElem?_range hj])
  unfold World.cell? at hc
  split at hc
  · rename_i C t fz hb
    split at hc
    · cases hc
    · rename_i hs
      rw [add_block] at hb
      refine ⟨C, t, fz, hb, fun hj0 => ?_, ?_, by rw [hy]; rfl⟩
      · have : (a.add j).spot = a.spot := by subst hj0; rfl
        rw [this] at hs
        cases ha : a.spot with
        | none => rfl
        | some s => rw [ha] at hs; simp at hs
      · rw [hy, ← hc, add_off]
  · cases hc
/-- The elements of a slice, each as it is read. -/
theorem open_row {a : Addr} {w len : Nat} {C : Array Value} {t : TypeId} {fz : Nat × Nat} {e : EK} (hw : 1 ≤ w) (hew : e.w = w) (hb : W.heap[a.block]? = some (.cells C t fz))
    (hel : ∀ i, i < len → ∃ us, W.cells? 0 (a.add (i * w)) w = some us ∧ ∃ x : e.T, EKR (E0 W) e x us ∧ okE e x) : ∀ d i, i + d = len → ∃ l : List e.T, l.length = d ∧ (∀ x ∈ l, okE e x) ∧ EKL (E0 W) e l ((C.toList.drop (a.off + i * w)).take (d * w))
  | 0, i, hi => ⟨[], rfl, by simp, by simp [EKL]⟩
  | d + 1, i, hi => by
    obtain ⟨us, h1, x, h2, ox⟩ := hel i (by omega)
    obtain ⟨h3, h4⟩ := cells_row h1
    obtain ⟨l, q1, q0, q2⟩ := open_row hw hew hb hel d (i + 1) (by omega)
    have hus : (C.toList.drop (a.off + i * w)).take w = us := by
      apply List.ext_getElem?
      intro j
      rw [List.getElem?_take, List.getElem?_drop]
      by_cases hj : j < w
      · rw [if_pos hj]
        obtain ⟨C', t', fz', g1, _, g2, _⟩ := h4 j hj
        rw [add_block, hb] at g1; cases g1
        rw [← g2, Array.getElem?_toList, add_off]
      · rw [if_neg hj, List.getElem?_eq_none (by omega)]
    refine ⟨x :: l, by simp [q1], fun y hy => by rcases List.mem_cons.1 hy with rfl | hy; exact ox; exact q0 y hy, us, _, ?_, h2, q2⟩
    rw [show (d + 1) * w = w + d * w by rw [Nat.succ_mul, Nat.add_comm], List.take_add, hus, List.drop_drop, show a.off + (i + 1) * w = a.off + i * w + w by rw [Nat.succ_mul]; omega]
theorem open_lst {t e : TypeId} {fuel : Nat} {cs : List Value} {x : DataW H × List MemPlace} {ek : EK} {w : Nat} (hu : P.underlying t = some (.slice e)) (hw : 1 ≤ w) (hew : ek.w = w) (hc : P.cellsOf e = w) (hby : 1 ≤ P.bytesOf e)
    (hel : ∀ fuel us (y : DataW H × List MemPlace), DataW.trod enc P W 0 sp held fuel e us = some y → us.length = w → (∀ n ∈ y.1.weights P e, n ≤ reachBytes) → ∃ x : ek.T, EKR (E0 W) ek x us ∧ okE ek x) (hz : ∀ n ∈ x.1.weights P t, n ≤ reachBytes) (h : DataW.trod enc P W 0 sp held fuel t cs = some x) :
    ∃ l : List ek.T, l.length ≤ ML ∧ (l.length ≤ reachBytes ∧ ∀ x ∈ l, okE ek x) ∧ ∃ base cap, cs = [.slice base l.length cap] ∧ l.length ≤ cap ∧ ∃ vs, EKL (E0 W) ek l vs ∧ (l = [] ∨ ∃ b o, base = some ⟨b, o, none⟩ ∧ ImAt (E0 W) true b o vs) := by
  cases fuel with
  | zero => cases h
  | succ fuel =>
    unfold DataW.trod at h
    rw [hu] at h
    match cs, h with
    | [.slice none 0 0], h => exact ⟨[], Nat.zero_le _, ⟨Nat.zero_le _, by simp⟩, none, 0, rfl, Nat.le_refl _, [], rfl, .inl rfl⟩
    | [.slice (some a) len cap], h =>
      simp only [] at h
      split at h
      · rename_i hcond
        obtain ⟨_, h1, h2⟩ := hcond
        cases hm : ((List.range len).mapM fun i => (W.cells? 0 (a.add (i * P.cellsOf e)) (P.cellsOf e)).bind (DataW.trod enc P W 0 sp held fuel e)) with
        | none => rw [hm] at h; cases h
        | some ys =>
          rw [hm] at h
          obtain ⟨hyl, h4⟩ := mapM_at hm
          rw [List.length_range] at hyl
          obtain ⟨rest, hx⟩ : ∃ rest, x.1 = .slice (ys.map (·.1)) rest := by
            simp only [Option.bind_some] at h
            split at h
            · cases hq : ((List.range (cap - len)).mapM fun j => (W.cells? 0 (a.add ((len + j) * P.cellsOf e)) (P.cellsOf e)).bind (DataW.trod enc P W 0 sp held fuel e)) with
              | none => rw [hq] at h; cases h
              | some r => rw [hq] at h; cases h; exact ⟨_, rfl⟩
            · cases h; exact ⟨_, rfl⟩
          rw [hx] at hz
          simp only [DataW.weights, hu] at hz
          have hlr : len ≤ reachBytes := by
            have h5 := hz _ (List.mem_cons_self ..)
            rw [List.length_map, hyl] at h5
            have h6 : (len + rest.length) * 1 ≤ (len + rest.length) * P.bytesOf e := Nat.mul_le_mul_left _ hby
            omega
          have hyw : ∀ (y : DataW H × List MemPlace), y ∈ ys → ∀ n ∈ y.1.weights P e, n ≤ reachBytes := by
            have : ∀ (l : List (DataW H × List MemPlace)), (∀ n ∈ DataW.weightsAll P e (l.map (·.1)), n ≤ reachBytes) → ∀ y, y ∈ l → ∀ n ∈ y.1.weights P e, n ≤ reachBytes := by
              intro l
              induction l with
              | nil => intro _ y hy; cases hy
              | cons z l ih =>
                intro hw y hy
                simp only [List.map_cons, DataW.weightsAll, List.mem_append] at hw
                rcases List.mem_cons.1 hy with rfl | hy
                · exact fun n hn => hw n (.inl hn)
                · exact ih (fun n hn => hw n (.inr hn)) y hy
            exact this ys fun n hn => hz n (List.mem_cons_of_mem _ (List.mem_append_left _ hn))
          have hML : len ≤ ML := by have : maxLen = ML := by decide
                                    omega
          rcases Nat.eq_zero_or_pos len with h0 | h0
          · subst h0; exact ⟨[], Nat.zero_le _, ⟨Nat.zero_le _, by simp⟩, some a, cap, rfl, Nat.zero_le _, [], rfl, .inl rfl⟩
          · have hel' : ∀ i, i < len → ∃ us, W.cells? 0 (a.add (i * w)) w = some us ∧ ∃ x : ek.T, EKR (E0 W) ek x us ∧ okE ek x := fun i hi => by
              obtain ⟨y, hyi, hy⟩ := h4 i i (by rw [List.getElem?_range hi])
              rw [hc] at hy
              cases hus : W.cells? 0 (a.add (i * w)) w with
              | none => rw [hus] at hy; cases hy
              | some us =>
                rw [hus] at hy
                obtain ⟨x, hx, ox⟩ := hel fuel us y hy (cells_row hus).1 (hyw y (List.mem_of_getElem? hyi))
                exact ⟨us, rfl, x, hx, ox⟩
            obtain ⟨us0, hus0, _⟩ := hel' 0 h0
            obtain ⟨C, ct, fz, hb, hs, _, _⟩ := (cells_row hus0).2 0 hw
            rw [add_block] at hb
            have hs : a.spot = none := by have := hs rfl; rw [Nat.zero_mul] at this; exact this
            obtain ⟨l, q1, q0, q2⟩ := open_row hw hew hb hel' len 0 (by omega)
            rw [Nat.zero_mul, Nat.add_zero] at q2
            refine ⟨l, by omega, ⟨by omega, q0⟩, some a, cap, by rw [q1], by omega, _, q2, .inr ⟨a.block, a.off, by cases a; simp_all, C, ?_, ?_⟩⟩
            · show imW W a.block = some C
              unfold imW; rw [hb]
            · rw [EKL_len q2, q1, hew]
      · cases h
theorem open_sks : ∀ {n : Nat} {t : TypeId} {ss : List SK} {fuel : Nat} {cs : List Value} {x : DataW H × List MemPlace}, sksC P n t = some ss → DataW.trod enc P W 0 sp held fuel t cs = some x → (∀ n ∈ x.1.weights P t, n ≤ reachBytes) → ∃ y : RT ss, RTR (E0 W) ss y cs ∧ okR ss y
  | 0, t, ss, fuel, cs, x, hc, h, hz => by cases hc
  | n + 1, t, ss, 0, cs, x, hc, h, hz => by cases h
  | n + 1, t, ss, fuel + 1, cs, x, hc, h, hz => by
    have hall := h
    simp only [sksC] at hc
    split at hc
    · rename_i k hu
      cases hc
      unfold DataW.trod at h
      rw [hu] at h
      match cs, h with
      | [.int k1 m], h =>
        simp only [] at h
        split at h
        · rename_i hk; obtain ⟨rfl, hw⟩ := hk
          exact ⟨m, ⟨rfl, wf_inK hw⟩, wf_inK hw⟩
        · cases h
    · rename_i hu
      cases hc
      unfold DataW.trod at h
      rw [hu] at h
      match cs, h with
      | [.bool b], h => exact ⟨b, rfl, trivial⟩
    · rename_i hu
      cases hc
      unfold DataW.trod at h
      rw [hu] at h
      match cs, h with
      | [.string s], h =>
        simp only [] at h
        split at h
        · rename_i hs
          have e1 : maxLen = ML := by decide
          have e : s.data.size = s.size := rfl
          cases h
          simp only [DataW.weights, List.mem_singleton, Array.length_toList] at hz
          have := hz _ rfl
          refine ⟨bytesOf s, ⟨s, rfl, rfl, ?_⟩, ?_⟩
          · simp only [bytesOf, List.length_map, Array.length_toList]; omega
          · show (bytesOf s).length ≤ _
            simp only [bytesOf, List.length_map, Array.length_toList]; exact this
        · cases h
    · rename_i e hu
      split at hc
      · rename_i k he
        cases hb : (Nat.beq (P.cellsOf e) 1 && Nat.ble 1 (P.bytesOf e)) with
        | false => rw [hb] at hc; cases hc
        | true =>
          rw [hb] at hc; cases hc
          rw [Bool.and_eq_true] at hb
          obtain ⟨l, h1, ho, base, cap, rfl, h2, vs, h3, h4⟩ := open_lst (ek := .one (.int k)) (w := 1) hu (Nat.le_refl _) rfl (Nat.eq_of_beq_eq_true hb.1) (Nat.le_of_ble_eq_true hb.2) (fun fuel us y hy _ _ => by
            cases fuel with
            | zero => cases hy
            | succ fuel =>
              unfold DataW.trod at hy
              rw [he] at hy
              match us, hy with
              | [.int k1 m], hy =>
                simp only [] at hy
                split at hy
                · rename_i hk; obtain ⟨rfl, hw⟩ := hk
                  exact ⟨m, ⟨rfl, wf_inK hw⟩, wf_inK hw⟩
                · cases hy) hz hall
          obtain ⟨rfl, h5⟩ := EKL_int.1 h3
          exact ⟨l, ⟨h5, h1, base, cap, rfl, h2, h4⟩, ho.1, h5⟩
      · cases hc
    · rename_i m e hu
      split at hc
      · rename_i k c hi
        cases hc
        obtain ⟨l, h1, h2, h3⟩ := open_ints hi hall
        exact ⟨l, ⟨h1, h2, h3⟩, h2, h3⟩
      · cases hc
    · rename_i fs hu
      split at hc
      · rename_i ss' hf
        cases hb : Nat.beq (P.cellsOf t) (sksW ss') with
        | false => rw [hb] at hc; cases hc
        | true =>
          rw [hb] at hc; cases hc
          have hb := Nat.eq_of_beq_eq_true hb
          unfold DataW.trod at h
          rw [hu] at h
          simp only [] at h
          split at h
          · rename_i hlen
            cases hm : (fs.toList.mapM fun f => DataW.trod enc P W 0 sp held fuel f.type ((cs.drop f.offset).take (P.cellsOf f.type))) with
            | none => rw [hm] at h; cases h
            | some ys =>
              rw [hm] at h
              simp only [Option.map_some, Option.some.injEq] at h
              subst h
              simp only [DataW.weights, hu] at hz
              have key : ∀ (fs : List Field) (ys : List (DataW H × List MemPlace)) (off : Nat) (ss : List SK), fieldsC P (sksC P n) fs off = some ss → (fs.mapM fun f => DataW.trod enc P W 0 sp held fuel f.type ((cs.drop f.offset).take (P.cellsOf f.type))) = some ys → 
                  cs.length = off + sksW ss → (∀ n ∈ DataW.weightsEach P (fs.map (·.type)) (ys.map (·.1)), n ≤ reachBytes) → ∃ y : RT ss, RTR (E0 W) ss y (cs.drop off) ∧ okR ss y := by
                intro fs
                induction fs with
                | nil =>
                  intro ys off ss hs _ hl _
                  simp only [fieldsC, Option.some.injEq] at hs
                  subst hs
                  refine ⟨(), ?_, trivial⟩
                  simp only [sksW] at hl
                  simp only [RTR]
                  exact List.drop_eq_nil_of_le (by omega)
                | cons f fs ih =>
                  intro ys off ss hs hm hl hz
                  simp only [fieldsC] at hs
                  cases ho : Nat.beq f.offset off with
                  | false => rw [ho] at hs; cases hs
                  | true =>
                    rw [ho] at hs
                    simp only [cond_true] at hs
                    have ho := Nat.eq_of_beq_eq_true ho
                    split at hs
                    · rename_i a ha
                      cases hcw : Nat.beq (P.cellsOf f.type) (sksW a) with
                      | false => rw [hcw] at hs; cases hs
                      | true =>
                        rw [hcw] at hs
                        simp only [cond_true] at hs
                        have hcw := Nat.eq_of_beq_eq_true hcw
                        split at hs
                        · rename_i b hb'
                          cases hs
                          rw [List.mapM_cons] at hm
                          cases hf1 : DataW.trod enc P W 0 sp held fuel f.type ((cs.drop f.offset).take (P.cellsOf f.type)) with
                          | none => rw [hf1] at hm; simp at hm
                          | some y1 =>
                            rw [hf1] at hm
                            cases hf2 : (fs.mapM fun f => DataW.trod enc P W 0 sp held fuel f.type ((cs.drop f.offset).take (P.cellsOf f.type))) with
                            | none => rw [hf2] at hm; simp at hm
                            | some ys2 =>
                              rw [hf2] at hm
                              have hm : some (y1 :: ys2) = some ys := hm
                              cases hm
                              simp only [List.map_cons, DataW.weightsEach, List.mem_append] at hz
                              obtain ⟨z1, r1, o1⟩ := open_sks (n := n) ha hf1 (fun n hn => hz n (.inl hn))
                              rw [sksW_append] at hl
                              obtain ⟨z2, r2, o2⟩ := ih ys2 (off + sksW a) b hb' hf2 (by omega) (fun n hn => hz n (.inr hn))
                              obtain ⟨z, r, o⟩ := RTR_append r1 r2 o1 o2
                              refine ⟨z, ?_, o⟩
                              rw [ho, hcw, ← List.drop_drop, List.take_append_drop] at r
                              exact r
                        · cases hs
                    · cases hs
              obtain ⟨y, hy, oy⟩ := key fs.toList ys 0 ss hf hm (by omega) hz
              rw [List.drop_zero] at hy
              exact ⟨y, hy, oy⟩
          · cases h
      · cases hc
    · cases hc
where
  sksW_append : ∀ {a b : List SK}, sksW (a ++ b) = sksW a + sksW b
    | [], b => by simp [sksW]
    | s :: a, b => by simp only [List.cons_append, sksW, sksW_append (a := a) (b := b)]; omega
end Go.Eng

/- A law's row, from what its function comes to in plain Lean. No condition. -/
namespace Go.Eng
open Go.RowKit Go.ChangeShapes Go.WideShapes
def vpS : SK → VP
  | .int k => .int k
  | .bool => .bool
  | .str => .str
  | .lst k => .lst true (.one (.int k))
  | .arr k n => .arr k n
def vplS : List SK → VPL
  | [] => .nil
  | s :: r => .cons (vpS s) (vplS r)
theorem vp_of {E : En} {H : Nat → Option JObj} {s : SK} {x : s.T} {us : List Value} (h : SKR E s x us) (o : okS s x) : ∃ y : (vpS s).T, RC E H ((vpS s).mk y) us ∧ okV (vpS s) y := by
  cases s with
  | int k => exact ⟨x, h, o⟩
  | bool => exact ⟨x, h, trivial⟩
  | str => exact ⟨x, h, o⟩
  | lst k =>
    obtain ⟨h1, h2, base, cap, rfl, h3, h4⟩ := h
    exact ⟨x, ⟨h2, base, cap, rfl, h3, _, EKL_int.2 ⟨rfl, h1⟩, h4⟩, o.1, fun y hy => o.2 y hy⟩
  | arr k n => exact ⟨x, h, o⟩
theorem vpl_of {E : En} {H : Nat → Option JObj} : ∀ {ss : List SK} {x : RT ss} {us : List Value}, RTR E ss x us → okR ss x → ∃ y : (vplS ss).T, RCs E H ((vplS ss).mk y) us ∧ okVL (vplS ss) y
  | [], x, us, h, o => by simp only [RTR] at h; subst h; exact ⟨(), rfl, trivial⟩
  | [s], x, us, h, o => by
    obtain ⟨y, h1, h2⟩ := vp_of (H := H) h o
    exact ⟨(y, ()), ⟨us, [], by simp, h1, rfl⟩, h2, trivial⟩
  | s :: t :: r, x, us, h, o => by
    obtain ⟨a, b, rfl, h1, h2⟩ := h
    obtain ⟨y, g1, g2⟩ := vp_of (H := H) h1 o.1
    obtain ⟨z, g3, g4⟩ := vpl_of (H := H) h2 o.2
    exact ⟨(y, z), ⟨a, b, rfl, g1, g3⟩, g2, g4⟩
def elemC (P : Program) (e : TypeId) : Option EK :=
  match P.underlying e with
  | some (.struct _) => match sksC P 8 e with
    | some ss => cond (Nat.beq (P.cellsOf e) (sksW ss) && Nat.ble 1 (sksW ss) && Nat.ble 1 (P.bytesOf e)) (some (.many ss)) none
    | none => none
  | _ => match sksC P 8 e with
    | some [s] => cond (Nat.beq (P.cellsOf e) s.w && Nat.ble 1 s.w && Nat.ble 1 (P.bytesOf e)) (some (.one s)) none
    | _ => none
def argC (P : Program) (t : TypeId) : Option VP :=
  match P.underlying t with
  | some (.struct _) => match sksC P 8 t with
    | some ss => some (.agg (vplS ss))
    | none => none
  | some (.array ..) => match intsC P 4 t with
    | some (k, c) => some (.arr k c)
    | none => none
  | some (.slice e) => match elemC P e with
    | some ek => some (.lst true ek)
    | none => none
  | some (.int k) => some (.int k)
  | some .bool => some .bool
  | some .string => some .str
  | _ => none
def argsC (P : Program) : List TypeId → Option VPL
  | [] => some .nil
  | t :: r => match argC P t, argsC P r with
    | some p, some q => some (.cons p q)
    | _, _ => none
section
variable {H : Type} {enc : TypeId × Value → H} {P : Program} {W W' : World} {sp : Nat → Bool} {held : Bool}
theorem elem_ok {e : TypeId} {ek : EK} (h : elemC P e = some ek) : 1 ≤ ek.w ∧ P.cellsOf e = ek.w ∧ 1 ≤ P.bytesOf e ∧ ∀ fuel us (y : DataW H × List MemPlace), DataW.trod enc P W 0 sp held fuel e us = some y → (∀ n ∈ y.1.weights P e, n ≤ reachBytes) → ∃ x : ek.T, EKR (E0 W) ek x us ∧ okE ek x := by
  unfold elemC at h
  split at h
  · split at h
    · rename_i ss hs
      cases hb : (Nat.beq (P.cellsOf e) (sksW ss) && Nat.ble 1 (sksW ss) && Nat.ble 1 (P.bytesOf e)) with
      | false => rw [hb] at h; cases h
      | true =>
        rw [hb] at h; cases h
        simp only [Bool.and_eq_true] at hb
        exact ⟨Nat.le_of_ble_eq_true hb.1.2, Nat.eq_of_beq_eq_true hb.1.1, Nat.le_of_ble_eq_true hb.2, fun fuel us y hy hz => open_sks hs hy hz⟩
    · cases h
  · split at h
    · rename_i s hs
      cases hb : (Nat.beq (P.cellsOf e) s.w && Nat.ble 1 s.w && Nat.ble 1 (P.bytesOf e)) with
      | false => rw [hb] at h; cases h
      | true =>
        rw [hb] at h; cases h
        simp only [Bool.and_eq_true] at hb
        exact ⟨Nat.le_of_ble_eq_true hb.1.2, Nat.eq_of_beq_eq_true hb.1.1, Nat.le_of_ble_eq_true hb.2, fun fuel us y hy hz => open_sks hs hy hz⟩
    · cases h
theorem open_arg {t : TypeId} {v : Value} {d : DataW H} {ps : List MemPlace} {p : VP} {r : Reach} {b0 : Nat} (hp : argC P t = some p) (hval : Value.okWide P W r b0 t v) (hd : DataW.Trod enc P W 0 sp held t v d ps) (hz : ∀ n ∈ d.weights P t, n ≤ reachBytes) :
    ∃ x : p.T, RV (E0 W) (fun _ => none) (p.mk x) v ∧ okV p x := by
  obtain ⟨fuel, hf⟩ := hd
  unfold argC at hp
  unfold Value.okWide at hval
  split at hp
  · rename_i fs hu
    rw [hu] at hval
    obtain ⟨cs, rfl, _, _⟩ := hval
    split at hp
    · rename_i ss hs
      cases hp
      obtain ⟨y, h1, h2⟩ := open_sks hs hf hz
      obtain ⟨z, g1, g2⟩ := vpl_of (H := fun _ => none) h1 h2
      exact ⟨z, ⟨cs, rfl, g1⟩, g2⟩
    · cases hp
  · rename_i m e hu
    rw [hu] at hval
    obtain ⟨cs, rfl, _, _⟩ := hval
    split at hp
    · rename_i k c hi
      cases hp
      obtain ⟨l, h1, h2, h3⟩ := open_ints hi hf
      exact ⟨l, ⟨cs, rfl, h1, h2, h3⟩, h2, h3⟩
    · cases hp
  · rename_i e hu
    rw [hu] at hval
    split at hp
    · rename_i ek he
      cases hp
      have hone : v.cells.toList = [v] := by
        cases v with
        | agg cs => simp only [Cell.okWide, Cell.ok, hu] at hval
        | _ => rfl
      rw [hone] at hf
      obtain ⟨e1, e2, e3, e4⟩ := elem_ok (H := H) (enc := enc) (W := W) (sp := sp) (held := held) he
      obtain ⟨l, h1, h2, base, cap, h3, h4, vs, h5, h6⟩ := open_lst (ek := ek) hu e1 rfl e2 e3 (fun fuel us y hy _ hz => e4 fuel us y hy hz) hz hf
      simp only [List.cons.injEq, and_true] at h3
      subst h3
      exact ⟨l, ⟨h1, base, cap, rfl, h4, vs, h5, h6⟩, h2⟩
    · cases hp
  · rename_i k hu
    cases hp
    rw [hu] at hval
    have hone : v.cells.toList = [v] := by
      cases v with
      | agg cs => simp only [Cell.okWide, Cell.ok, hu] at hval
      | _ => rfl
    rw [hone] at hf
    obtain ⟨y, h1, h2⟩ := open_sks (n := 1) (ss := [.int k]) (by simp only [sksC, hu]) hf hz
    obtain ⟨h3, h4⟩ := h1
    simp only [List.cons.injEq, and_true] at h3
    subst h3
    exact ⟨y, ⟨rfl, h4⟩, h2⟩
  · rename_i hu
    cases hp
    rw [hu] at hval
    have hone : v.cells.toList = [v] := by
      cases v with
      | agg cs => simp only [Cell.okWide, Cell.ok, hu] at hval
      | _ => rfl
    rw [hone] at hf
    obtain ⟨y, h1, h2⟩ := open_sks (n := 1) (ss := [.bool]) (by simp only [sksC, hu]) hf hz
    have h3 : [v] = [.bool y] := h1
    simp only [List.cons.injEq, and_true] at h3
    subst h3
    exact ⟨y, rfl, trivial⟩
  · rename_i hu
    cases hp
    rw [hu] at hval
    have hone : v.cells.toList = [v] := by
      cases v with
      | agg cs => simp only [Cell.okWide, Cell.ok, hu] at hval
      | _ => rfl
    rw [hone] at hf
    obtain ⟨y, h1, h2⟩ := open_sks (n := 1) (ss := [.str]) (by simp only [sksC, hu]) hf hz
    obtain ⟨s, h3, h4, h5⟩ := h1
    simp only [List.cons.injEq, and_true] at h3
    subst h3
    exact ⟨y, ⟨s, rfl, h4, h5⟩, h2⟩
  · cases hp
theorem open_args {r : Reach} {b0 : Nat} : ∀ {ts : List TypeId} {vs : List Value} {ds : List (DataW H)} {ps : List MemPlace} {pin : VPL}, argsC P ts = some pin → (∀ (j : Nat) t v, ts[j]? = some t → vs[j]? = some v → Value.okWide P W r b0 t v) →
    DataW.TrodAll enc P W 0 sp held ts vs ds ps → (∀ n ∈ DataW.weightsEach P ts ds, n ≤ reachBytes) → ∃ x : pin.T, RVL (E0 W) (fun _ => none) (pin.mk x) vs ∧ okVL pin x
  | [], vs, ds, ps, pin, hp, hv, h, hz => by
    cases hp
    obtain ⟨rfl, rfl, rfl⟩ := trodAll_nil h
    exact ⟨(), rfl, trivial⟩
  | t :: ts, vs, ds, ps, pin, hp, hv, h, hz => by
    simp only [argsC] at hp
    split at hp
    · rename_i p q hp1 hq
      cases hp
      obtain ⟨v, vs', d, ds', p', q', rfl, rfl, rfl, h1, h2⟩ := trodAll_cons h
      simp only [DataW.weightsEach, List.mem_append] at hz
      obtain ⟨x, g1, g2⟩ := open_arg hp1 (hv 0 t v rfl rfl) h1 (fun n hn => hz n (.inl hn))
      obtain ⟨y, g3, g4⟩ := open_args hq (fun j t v ht hv' => hv (j + 1) t v (by simpa using ht) (by simpa using hv')) h2 (fun n hn => hz n (.inr hn))
      exact ⟨(x, y), ⟨v, vs', rfl, g1, g3⟩, g2, g4⟩
    · cases hp
theorem trodAll_below (hl : laidOutB P = true) (hb : Below W.heap.size W W') : ∀ {ts : List TypeId} {vs : List Value} {ds : List (DataW H)} {ps : List MemPlace}, (∀ t ∈ ts, P.readableRec t = true ∧ t < P.types.size) →
    DataW.TrodAll enc P W 0 (fun _ => true) true ts vs ds ps → (∀ x ∈ ps, x.block < W.heap.size) → DataW.TrodAll enc P W' 0 (fun b => decide (b < W.heap.size)) true ts vs ds ps
  | [], vs, ds, ps, hr, h, hlt => by
    obtain ⟨rfl, rfl, rfl⟩ := trodAll_nil h
    exact trodAll_mk0
  | t :: ts, vs, ds, ps, hr, h, hlt => by
    obtain ⟨v, vs', d, ds', p', q', rfl, rfl, rfl, h1, h2⟩ := trodAll_cons h
    obtain ⟨r1, r2⟩ := hr t (List.mem_cons_self ..)
    exact ⟨p', q', Below.trod hl r1 r2 h1 hb (fun x hx => hlt x (List.mem_append_left _ hx)), trodAll_below hl hb (fun t ht => hr t (List.mem_cons_of_mem _ ht)) h2 (fun x hx => hlt x (List.mem_append_right _ hx)), rfl⟩
end
/-- A law's row. -/
theorem law_lifted {C : Checked} {f : FuncId} {fn : Func} {s : ChangeSpec} {conds : List PathCond} {pin : VPL} {F : Nat → pin.T → OPL.T [] → Option (AT [(.bool, [])])} {tb : TypeId}
    (own : ownKnob C.prog.godebug = none) (noInit : C.prog.inits.idxOf? f = none) (hfn : C.prog.funcs[f]? = some fn) (hk : ∀ k, FnOK C.prog f pin [] [(.bool, [])] (F k)) (hargs : argsC C.prog fn.params.toList = some pin)
    (hvars : s.vars = []) (hres : fn.resultTypes = #[tb]) (htb : C.prog.underlying tb = some .bool) (hspec : ∀ (H : Type) (ds : List (DataW H)), ds.length = fn.params.toList.length → s.fn H ds = { results := [.lit (.bool true)], args := ds })
    (hl : laidOutB C.prog = true) (hrd : fn.params.toList.all (fun t => C.prog.readableRec t && Nat.blt t C.prog.types.size) = true) (plain : ∀ x, okVL pin x → ∃ k, F k x () = some (true, ()))
    (os : Os) (started : os.Started) (H : Type) (enc : TypeId × Value → H)
    (witness : ∃ (w : World) (tape : Tape) (i : Input), w.os = os ∧ (w.forCall tape i).Shaped C.prog ∧ i.vars = [] ∧ Input.okWide C.prog (w.forCall tape i) .any w.heap.size f i ∧
      s.pre6 enc C.prog fn conds false (w.forCall tape i).memory i.args ∧ Assume.holds {} C.prog (lone (Frame.enter C.prog f i.args .normal) [] (w.forCall tape i))) :
    ReturnsInHanded {} C os f .any (s.pre6 enc C.prog fn conds false) (s.post enc C.prog fn false true false false) := by
  refine returnsInHanded_of_change_sized own started noInit hfn witness ?_
  intro W base args ds gs before hval hW hcnd hsz _
  have hW' := hW
  obtain ⟨p, q, hA, hV, rfl, hfz, hnd⟩ := hW
  rw [hvars] at hV
  obtain ⟨rfl, rfl⟩ := trodVars_none hV
  have hlen := (trodAll_length hA).2
  obtain ⟨x, hx, ox⟩ := open_args (P := C.prog) (W := W) hargs (fun j t v ht hv => hval j t v (by rw [← Array.getElem?_toList]; exact ht) (by rw [← Array.getElem?_toList]; exact hv)) hA (fun n hn => by
    have := List.all_eq_true.1 hsz n (by
      have e : s.plain.varTypes C.prog = [] := by simp [DataSpec.varTypes, ChangeSpec.plain, hvars]
      rw [e, List.append_nil, List.append_nil]; exact hn)
    simpa using this)
  obtain ⟨k, hk'⟩ := plain x ox
  have hcall := law_calls (hk k) hk' hx
  rw [Array.toArray_toList] at hcall
  refine hcall.mono fun e W' ⟨he, bel⟩ => ?_
  subst he
  refine ⟨_, rfl, ds, [], _, [], p, [], hW', ?_, ?_, ?_, bel.frame _, fun h => by cases h⟩
  · rw [hres, List.append_nil, hspec H ds (by omega)]; exact trodAll_mk1 (shut_bool htb _)
  · rw [List.append_nil, hspec H ds (by omega)]
    exact trodAll_below hl bel (fun t ht => by
      have := List.all_eq_true.1 hrd t ht
      rw [Bool.and_eq_true, Nat.blt_eq] at this; exact this) hA (fun x hx => DataW.TrodAll.lt hA x hx)
  · rw [hvars, List.append_nil, hspec H ds (by omega)]; exact rfl
end Go.Eng

