/- The engine, part 1: a second reading of the code over values and lists, and that it is right. No condition. -/
import Derived.Orders
import Derived.Below
import Derived.Laws.Cells
import Derived.Laws.Append
import Derived.Laws.AppendOwn
import Derived.Laws.MakeOwn
import Derived.Laws.BytesString
import Derived.Laws.StructEq
set_option linter.unusedVariables false
set_option linter.unusedSimpArgs false
namespace Go.Eng
inductive SK where
  | int (k : IntKind) | bool | str | lst (k : IntKind) | arr (k : IntKind) (n : Nat)
  deriving DecidableEq
inductive EK where
  | one (s : SK) | many (ss : List SK)
  deriving DecidableEq
@[reducible] def SK.T : SK → Type
  | .int _ => Int
  | .bool => Bool
  | .str => List Int
  | .lst _ => List Int
  | .arr _ _ => List Int
@[reducible] def RT : List SK → Type
  | [] => Unit
  | [s] => s.T
  | s :: r => s.T × RT r
@[reducible] def EK.T : EK → Type
  | .one s => s.T
  | .many ss => RT ss
def SK.w : SK → Nat
  | .arr _ n => n
  | _ => 1
def sksW : List SK → Nat
  | [] => 0
  | s :: r => s.w + sksW r
def EK.w : EK → Nat
  | .one s => s.w
  | .many ss => sksW ss
inductive JV where
  | int (k : IntKind) (n : Int)
  | bool (b : Bool)
  | str (s : List Int)
  | nilp | nils | nilf
  | ptr (id off : Nat)              -- a cell of the box id
  | pdyn (id off i : Nat)           -- a cell of the row of numbers that begins at the cell off of the box id
  | pel (id i c : Nat)              -- the cell c of the element i of the row id
  | full (id : Nat)                 -- the row id as a slice
  | sl (id off len : Nat)           -- a part of it
  | lst (esc : Bool) (e : EK) (l : List e.T)   -- a slice that no one writes (esc: for ever; else: till the call ends)
  | pim (esc : Bool) (cs : List JV)            -- the address of cells that no one writes
  | fn (f : FuncId) (caps : List JV)
  | arr (k : IntKind) (n : Nat) (l : List Int) -- an array of numbers: n cells
  | agg (cs : List JV)
  | tup (vs : List JV)
  | junk
inductive JObj where
  | box (cs : List JV) (rw : Bool)
  | row (e : EK) (l : List e.T) (rw : Bool)
structure St where
  env : Nat → JV
  H : Nat → Option JObj
  nx : Nat
def upd {α : Type} (f : Nat → α) (j : Nat) (v : α) : Nat → α := fun i => cond (Nat.beq i j) v (f i)
def St.set (st : St) (d : Option Nat) (v : JV) : St :=
  match d with
  | some d => { st with env := upd st.env d v }
  | none => st
def St.put (st : St) (id : Nat) (o : JObj) : St := { st with H := upd st.H id (some o) }
def St.new (st : St) (o : JObj) : St := { st with H := upd st.H st.nx (some o), nx := st.nx + 1 }
def St.kill (st : St) (id : Nat) : St := { st with H := upd st.H id none }
mutual
def JV.ren (f : Nat → Option Nat) : JV → JV
  | .ptr id off => match f id with
    | some i => .ptr i off
    | none => .junk
  | .pdyn id off d => match f id with
    | some i => .pdyn i off d
    | none => .junk
  | .pel id d c => match f id with
    | some i => .pel i d c
    | none => .junk
  | .full id => match f id with
    | some i => .full i
    | none => .junk
  | .sl id off len => match f id with
    | some i => .sl i off len
    | none => .junk
  | .pim esc cs => .pim esc (renL f cs)
  | .fn g caps => .fn g (renL f caps)
  | .agg cs => .agg (renL f cs)
  | .tup vs => .tup (renL f vs)
  | v => v
def renL (f : Nat → Option Nat) : List JV → List JV
  | [] => []
  | v :: r => v.ren f :: renL f r
end
def JObj.ren (f : Nat → Option Nat) : JObj → JObj
  | .box cs rw => .box (renL f cs) rw
  | .row e l rw => .row e l rw
def JV.wid : JV → Nat
  | .arr _ n _ => n
  | _ => 1
def wids : List JV → Nat
  | [] => 0
  | c :: r => c.wid + wids r
def getAt : List JV → Nat → Option JV
  | [], _ => none
  | c :: r, off => cond (Nat.beq off 0) (some c) (cond (Nat.ble c.wid off) (getAt r (off - c.wid)) none)
def dropAt : List JV → Nat → Option (List JV)
  | cs, 0 => some cs
  | [], _ + 1 => none
  | c :: r, off + 1 => cond (Nat.ble c.wid (off + 1)) (dropAt r (off + 1 - c.wid)) none
def takeAt : List JV → Nat → Option (List JV)
  | _, 0 => some []
  | [], _ + 1 => none
  | c :: r, w + 1 => cond (Nat.ble c.wid (w + 1)) (match takeAt r (w + 1 - c.wid) with
    | some l => some (c :: l)
    | none => none) none
def setAt : List JV → Nat → JV → Option (List JV)
  | [], _, _ => none
  | c :: r, off, v => cond (Nat.beq off 0)
      (match c, v with
        | .arr k n l, .int k' x => if k = k' ∧ 0 < n then some (.arr k n (l.set 0 x) :: r) else none
        | c, v => cond (Nat.beq c.wid v.wid) (some (v :: r)) none)
      (cond (Nat.ble c.wid off)
        (match setAt r (off - c.wid) v with
          | some l => some (c :: l)
          | none => none)
        (match c, v with
          | .arr k n l, .int k' x => if k = k' ∧ off < n then some (.arr k n (l.set off x) :: r) else none
          | _, _ => none))
def JV.cells : JV → List JV
  | .agg cs => cs
  | v => [v]
def JV.flat : JV → Bool
  | .agg _ | .tup _ | .arr .. => false
  | _ => true
def JV.capt : JV → Bool
  | .junk => false
  | v => v.flat
def putAt : List JV → Nat → List JV → Option (List JV)
  | cs, _, [] => some cs
  | cs, off, v :: r => match setAt cs off v with
    | some cs' => putAt cs' (off + v.wid) r
    | none => none
def SK.val : (s : SK) → s.T → JV
  | .int k, n => .int k n
  | .bool, b => .bool b
  | .str, s => .str s
  | .lst k, l => .lst true (.one (.int k)) l
  | .arr k n, l => .arr k n l
def rcells : (ss : List SK) → RT ss → List JV
  | [], _ => []
  | [s], x => [s.val x]
  | s :: t :: r, x => s.val x.1 :: rcells (t :: r) x.2
def EK.cells : (e : EK) → e.T → List JV
  | .one s, x => [s.val x]
  | .many ss, x => rcells ss x
def castL (e e' : EK) (l : List e'.T) : Option (List e.T) :=
  if h : e' = e then some (h ▸ l) else none
def SK.un : (s : SK) → JV → Option s.T
  | .int k, .int k' n => if k = k' then some n else none
  | .bool, .bool b => some b
  | .str, .str s => some s
  | .lst k, .lst esc e l => cond esc (castL (.one (.int k)) e l) none
  | .lst _, .nils => some []
  | .arr k n, .arr k' n' l => if k = k' ∧ n = n' then some l else none
  | _, _ => none
def runc : (ss : List SK) → List JV → Option (RT ss)
  | [], [] => some ()
  | [s], [v] => s.un v
  | s :: t :: r, v :: vs => match s.un v with
    | some a => match runc (t :: r) vs with
      | some b => some (a, b)
      | none => none
    | none => none
  | _, _ => none
def EK.un : (e : EK) → List JV → Option e.T
  | .one s, [v] => s.un v
  | .many ss, vs => runc ss vs
  | _, _ => none
def SK.dflt : (s : SK) → s.T
  | .int _ => (0 : Int)
  | .bool => false
  | .str => ([] : List Int)
  | .lst _ => ([] : List Int)
  | .arr _ n => (List.replicate n 0 : List Int)
def rdflt : (ss : List SK) → RT ss
  | [] => ()
  | [s] => s.dflt
  | s :: t :: r => (s.dflt, rdflt (t :: r))
def EK.dflt : (e : EK) → e.T
  | .one s => s.dflt
  | .many ss => rdflt ss
def skOf (P : Program) (t : TypeId) : Option SK :=
  match P.underlying t with
  | some (.int k) => some (.int k)
  | some .bool => some .bool
  | some .string => some .str
  | some (.slice e) => match P.underlying e with
    | some (.int k) => some (.lst k)
    | _ => none
  | _ => none
def arrOf (P : Program) : Nat → TypeId → Option IntKind
  | 0, _ => none
  | n + 1, t => match P.underlying t with
    | some (.array _ e) => arrOf P n e
    | some (.int k) => some k
    | _ => none
def sksOf (P : Program) : Nat → TypeId → Option (List SK)
  | 0, _ => none
  | n + 1, t => match P.underlying t with
    | some (.struct fs) => fs.toList.foldr (fun f r => match sksOf P n f.type, r with
      | some a, some b => some (a ++ b)
      | _, _ => none) (some [])
    | some (.array m e) => match arrOf P 8 e with
      | some k => some [.arr k (m * P.cellsOf e)]
      | none => match sksOf P n e with
        | some a => some ((List.replicate m a).flatten)
        | none => none
    | _ => match skOf P t with
      | some s => some [s]
      | none => none
def ekOf (P : Program) (t : TypeId) : Option EK :=
  match P.underlying t with
  | some (.struct _) => match sksOf P 8 t with
    | some ss => some (.many ss)
    | none => none
  | _ => match skOf P t with
    | some s => some (.one s)
    | none => none
def zeroT (P : Program) : Nat → TypeId → Option (List JV)
  | 0, _ => none
  | n + 1, t => match P.underlying t with
    | some (.struct fs) => fs.toList.foldr (fun f r => match zeroT P n f.type, r with
      | some a, some b => some (a ++ b)
      | _, _ => none) (some [])
    | some (.array m e) => match arrOf P 8 e with
      | some k => match P.info? t with
        | some i => some [.arr k i.size (List.replicate i.size 0)]
        | none => none
      | none => match zeroT P n e with
        | some a => some ((List.replicate m a).flatten)
        | none => none
    | some (.int k) => some [.int k 0]
    | some .bool => some [.bool false]
    | some .string => some [.str []]
    | some (.pointer _) => some [.nilp]
    | some (.slice _) => some [.nils]
    | some (.func ..) => some [.nilf]
    | _ => none
def intsOk (k : IntKind) : List Int → List Value → Bool
  | [], [] => true
  | n :: r, .int k' m :: vs => (k == k') && (n == m) && (decide (k.min ≤ n) && decide (n ≤ k.max)) && intsOk k r vs
  | _, _ => false
def cellsOk : List JV → List Value → Bool
  | [], [] => true
  | .arr k n l :: cs, vs => (l.length == n) && intsOk k l (vs.take n) && cellsOk cs (vs.drop n)
  | .int k n :: cs, .int k' m :: vs => (k == k') && (n == m) && (decide (k.min ≤ n) && decide (n ≤ k.max)) && cellsOk cs vs
  | .bool b :: cs, .bool b' :: vs => (b == b') && cellsOk cs vs
  | .str s :: cs, .string s' :: vs => (s == []) && (s'.size == 0) && cellsOk cs vs
  | .nilp :: cs, .pointer none :: vs => cellsOk cs vs
  | .nils :: cs, .slice none 0 0 :: vs => cellsOk cs vs
  | .nilf :: cs, .nilFunc :: vs => cellsOk cs vs
  | _, _ => false
def zeroJ (P : Program) (t : TypeId) : Option (List JV) :=
  match zeroT P 8 t, P.info? t with
  | some cs, some i => match i.zero with
    | some z => cond (cellsOk cs z.cells.toList) (some cs) none
    | none => none
  | _, _ => none
def isAggJ (P : Program) (t : TypeId) : Bool :=
  match P.underlying t with
  | some (.int _) => false
  | _ => true
def oneV : List JV → Option JV
  | [v] => cond v.flat (some v) none
  | _ => none
def asVal (P : Program) (t : TypeId) (cs : List JV) : Option JV :=
  match P.underlying t with
  | none => none
  | some (.struct _) => some (.agg cs)
  | some (.array _ _) => match cs with
    | [.arr k n l] => some (.arr k n l)
    | cs => some (.agg cs)
  | some _ => oneV cs
def sizeJ (P : Program) (t : TypeId) : Nat := P.cellsOf t
def bytesJ (P : Program) (t : TypeId) : Nat := P.bytesOf t
section
variable {R : Type}
abbrev K1 (R : Type) := JV → St → Option R
def asBoolK (v : JV) (K : Bool → Option R) : Option R :=
  match v with
  | .bool b => if b = true then K true else K false
  | _ => none
def intOp (op : BinOp) (k : IntKind) (a b : Int) (st : St) (K : K1 R) : Option R :=
  match op with
  | .add => K (.int k (k.wrap (a + b))) st
  | .sub => K (.int k (k.wrap (a - b))) st
  | .mul => K (.int k (k.wrap (a * b))) st
  | .quo => if b = 0 then none else K (.int k (k.wrap (a.tdiv b))) st
  | .rem => if b = 0 then none else K (.int k (a.tmod b)) st
  | .and => K (.int k (k.wrap (BitVec.ofInt k.bits a &&& BitVec.ofInt k.bits b).toNat)) st
  | .or => K (.int k (k.wrap (BitVec.ofInt k.bits a ||| BitVec.ofInt k.bits b).toNat)) st
  | .xor => K (.int k (k.wrap (BitVec.ofInt k.bits a ^^^ BitVec.ofInt k.bits b).toNat)) st
  | .andNot => K (.int k (k.wrap (BitVec.ofInt k.bits a &&& ~~~(BitVec.ofInt k.bits b)).toNat)) st
  | .eql => K (.bool (decide (a = b))) st
  | .neq => K (.bool (!decide (a = b))) st
  | .lss => K (.bool (decide (a < b))) st
  | .leq => K (.bool (decide (a ≤ b))) st
  | .gtr => K (.bool (decide (b < a))) st
  | .geq => K (.bool (decide (b ≤ a))) st
  | _ => none
def shl' (k : IntKind) (x y : Int) : Int := k.wrap (x * 2 ^ (min y.toNat k.bits))
def shr' (k : IntKind) (x y : Int) : Int := x.fdiv (2 ^ (min y.toNat k.bits))
def subJ (P : Program) (f : Field) (cs : List JV) : Option (List JV) :=
  match dropAt cs f.offset with
  | some r => takeAt r (sizeJ P f.type)
  | none => none
def eqF (P : Program) (eq : TypeId → List JV → List JV → Option Bool) : List Field → List JV → List JV → Option Bool
  | [], _, _ => some true
  | f :: fs, cs, ds => cond (decide (f.name = "_")) none (match subJ P f cs with
    | some c => match subJ P f ds with
      | some d => match eq f.type c d with
        | some x => match eqF P eq fs cs ds with
          | some y => some (x && y)
          | none => none
        | none => none
      | none => none
    | none => none)
def eqJ (P : Program) : Nat → TypeId → List JV → List JV → Option Bool
  | 0, _, _, _ => none
  | n + 1, t, cs, ds => match P.underlying t with
    | some (.int _) => match cs with
      | [.int k a] => match ds with
        | [.int k' b] => if k = k' then some (decide (a = b)) else none
        | _ => none
      | _ => none
    | some .bool => match cs with
      | [.bool a] => match ds with
        | [.bool b] => some (a == b)
        | _ => none
      | _ => none
    | some .string => match cs with
      | [.str a] => match ds with
        | [.str b] => some (decide (a = b))
        | _ => none
      | _ => none
    | some (.array m e) => match P.underlying e with
      | some (.int _) => match cs with
        | [.arr k n l] => match ds with
          | [.arr k' n' l'] => cond (Nat.beq n m && Nat.beq n' m && Nat.beq (sizeJ P e) 1 && decide (k = k')) (some (decide (l = l'))) none
          | _ => none
        | _ => none
      | some (.array m2 e2) => match P.underlying e2 with
        | some (.int _) => match cs with
          | [.arr k n l] => match ds with
            | [.arr k' n' l'] => cond (Nat.beq n (m * m2) && Nat.beq n' (m * m2) && Nat.beq (sizeJ P e) m2 && Nat.beq (sizeJ P e2) 1 && Nat.ble 1 m2 && decide (k = k')) (some (decide (l = l'))) none
            | _ => none
          | _ => none
        | _ => none
      | _ => none
    | some (.struct fs) => cond (P.stoodInHeld t) none (eqF P (eqJ P n) fs.toList cs ds)
    | _ => none
def aggC : JV → Option (List JV)
  | .agg cs => some cs
  | .arr k n l => some [.arr k n l]
  | _ => none
def aggEq (P : Program) (t : TypeId) (x y : JV) : Option Bool :=
  match aggC x with
  | some cs => match aggC y with
    | some ds => cond (P.eqGuardType P.depth t) none (cond (Nat.beq (wids cs) (sizeJ P t) && Nat.beq (wids ds) (sizeJ P t)) (eqJ P 9 t cs ds) none)
    | none => none
  | none => none
def eqlJ (P : Program) (t : TypeId) (x y : JV) (st : St) : Option Bool :=
  match P.underlying t with
  | some .bool => match x with
    | .bool a => match y with
      | .bool b => some (a == b)
      | _ => none
    | _ => none
  | some (.pointer _) => match y with
    | .nilp => match x with
      | .nilp => some true
      | .ptr id _ => match st.H id with
        | some (.box _ _) => some false
        | _ => none
      | _ => none
    | _ => none
  | some (.func ..) => match y with
    | .nilf => match x with
      | .nilf => some true
      | .fn .. => some false
      | _ => none
    | _ => none
  | some (.slice _) => match x with
    | .nils => match y with
      | .nils => some true
      | _ => none
    | _ => none
  | some (.struct _) => aggEq P t x y
  | some (.array ..) => aggEq P t x y
  | _ => none
def binJ (P : Program) (op : BinOp) (t : TypeId) (x y : JV) (st : St) (K : K1 R) : Option R :=
  match x, y with
  | .int k a, .int k' b => match op with
    | .shl => if b < 0 then none else K (.int k (shl' k a b)) st
    | .shr => if b < 0 then none else K (.int k (shr' k a b)) st
    | op => if k = k' then intOp op k a b st K else none
  | .str a, .str b => match op with
    | .eql => K (.bool (decide (a = b))) st
    | .neq => K (.bool (!decide (a = b))) st
    | .add => if a.length + b.length ≤ 9223372036854775807 then K (.str (a ++ b)) st else none
    | _ => none
  | x, y => match op with
    | .eql => match eqlJ P t x y st with
      | some b => K (.bool b) st
      | none => none
    | .neq => match eqlJ P t x y st with
      | some b => K (.bool (!b)) st
      | none => none
    | _ => none
def viewJ (a : JV) (st : St) (K : List JV → Option R) : Option R :=
  match a with
  | .ptr id off => match st.H id with
    | some (.box cs _) => match dropAt cs off with
      | some cs => K cs
      | none => none
    | _ => none
  | .pdyn id off i => match st.H id with
    | some (.box cs _) => match getAt cs off with
      | some (.arr k n l) => if i < n then K [.int k (l.getD i 0)] else none
      | _ => none
    | _ => none
  | .pel id i c => match st.H id with
    | some (.row e l _) => if i < l.length then (match dropAt (e.cells (l.getD i e.dflt)) c with
      | some cs => K cs
      | none => none) else none
    | _ => none
  | .pim _ cs => K cs
  | _ => none
def partJ (P : Program) (t : TypeId) (cs : List JV) (st : St) (K : K1 R) : Option R :=
  match takeAt cs (sizeJ P t) with
  | some cs => match asVal P t cs with
    | some v => K v st
    | none => none
  | none => none
def loadJ (P : Program) (t : TypeId) (a : JV) (st : St) (K : K1 R) : Option R :=
  viewJ a st fun cs => partJ P t cs st K
def store1J (P : Program) (t : TypeId) (a : JV) (v : JV) (st : St) (K : K1 R) : Option R :=
  cond (Nat.beq (wids v.cells) (sizeJ P t) && Nat.ble 1 (sizeJ P t)) (match a with
  | .ptr id off => match st.H id with
    | some (.box cs true) => match v with
      | .junk => none
      | .tup _ => none
      | v => match putAt cs off v.cells with
        | some cs' => K .junk (st.put id (.box cs' true))
        | none => none
    | _ => none
  | .pdyn id off i => match st.H id with
    | some (.box cs true) => match getAt cs off, v with
      | some (.arr k n l), .int k' x => if k = k' then (if i < n then (match setAt cs off (.arr k n (l.set i x)) with
        | some cs' => K .junk (st.put id (.box cs' true))
        | none => none) else none) else none
      | _, _ => none
    | _ => none
  | .pel id i c => match st.H id with
    | some (.row e l true) => match v with
      | .junk => none
      | .tup _ => none
      | v => if i < l.length then (match putAt (e.cells (l.getD i e.dflt)) c v.cells with
        | some cs => match e.un cs with
          | some x => K .junk (st.put id (.row e (l.set i x) true))
          | none => none
        | none => none) else none
    | _ => none
  | _ => none) none
def shrinkJ (a v : JV) (st : St) : JV × St :=
  match a with
  | .ptr id off => match v with
    | .sl r o n => match st.H id with
      | some (.box cs _) => match getAt cs off with
        | some (.full r') => cond (Nat.beq r r') (match st.H r with
          | some (.row e l true) => (.full st.nx, (st.kill r).new (.row e ((l.drop o).take n) true))
          | _ => (v, st)) (v, st)
        | _ => (v, st)
      | _ => (v, st)
    | _ => (v, st)
  | _ => (v, st)
def storeJ (P : Program) (t : TypeId) (a : JV) (v : JV) (st : St) (K : K1 R) : Option R :=
  match shrinkJ a v st with
  | (v, st) => store1J P t a v st K
def room : Nat := 140737488355328
def lenJ (P : Program) (t : Option TypeId) (v : JV) (st : St) (K : K1 R) : Option R :=
  match t with
  | none => none
  | some t => match P.underlying t with
    | some .string => match v with
      | .str s => K (.int .i64 (s.length : Int)) st
      | _ => none
    | some (.slice _) => match v with
      | .nils => K (.int .i64 0) st
      | .sl id _ n => match st.H id with
        | some _ => K (.int .i64 (n : Int)) st
        | none => none
      | .lst _ _ l => K (.int .i64 (l.length : Int)) st
      | .full id => match st.H id with
        | some (.row _ l _) => K (.int .i64 (l.length : Int)) st
        | _ => none
      | _ => none
    | some (.array n _) => cond (Nat.ble n 9223372036854775807) (K (.int .i64 (n : Int)) st) none
    | _ => none
def listJ (e : EK) (v : JV) (st : St) : Option (List e.T) :=
  match v with
  | .nils => some []
  | .lst _ e' l => castL e e' l
  | .str l => castL e (.one (.int .u8)) l
  | .full id => match st.H id with
    | some (.row e' l _) => castL e e' l
    | _ => none
  | .sl id off n => match st.H id with
    | some (.row e' l _) => castL e e' ((l.drop off).take n)
    | _ => none
  | _ => none
def withL (e : EK) (v : JV) (st : St) (K : List e.T → Option R) : Option R :=
  match listJ e v st with
  | some l => K l
  | none => none
def withM (e : EK) (v : JV) (st : St) (K : List e.T → Option R) : Option R :=
  match v with
  | .sl id off n => match st.H id with
    | some (.box [.arr k N l] _) => if off + n ≤ N then (match castL e (.one (.int k)) ((l.drop off).take n) with
      | some l => K l
      | none => none) else none
    | _ => withL e (.sl id off n) st K
  | v => withL e v st K
def tailJ (P : Program) : Option TypeId → Bool
  | none => true
  | some t => match P.underlying t with
    | some (.slice _) => true
    | some .string => true
    | _ => false
def appendJ (P : Program) (t : TypeId) (t2 : Option TypeId) (x y : JV) (st : St) (K : K1 R) : Option R :=
  match P.underlying t with
  | some (.slice el) => match ekOf P el, zeroJ P el with
    | some e, some z => cond (Nat.beq (sizeJ P el) e.w && Nat.ble 1 e.w && Nat.beq (wids z) e.w && Nat.ble 1 (bytesJ P el) && tailJ P t2) (withM e y st fun m => match x with
      | .nils => if m.length * bytesJ P el ≤ room then K (.full st.nx) (st.new (.row e m true)) else none
      | .full id => match st.H id with
        | some (.row e' l true) => match castL e e' l with
          | some l => if (l.length + m.length) * bytesJ P el ≤ room then K (.full st.nx) ((st.kill id).new (.row e (l ++ m) true)) else none
          | none => none
        | _ => none
      | .sl id off n => match st.H id with
        | some (.row e' l true) => match castL e e' ((l.drop off).take n) with
          | some l => if (l.length + m.length) * bytesJ P el ≤ room then K (.full (st.nx + 1)) ((((st.kill id).new (.row e l true)).kill st.nx).new (.row e (l ++ m) true)) else none
          | none => none
        | _ => none
      | _ => none) none
    | _, _ => none
  | _ => none
def pickB (id off : Nat) (i : Int) (st : St) (K : K1 R) : Nat → Nat → Option R
  | _, 0 => none
  | k, f + 1 => if i = (k : Int) then K (.ptr id (off + k)) st else pickB id off i st K (k + 1) f
def pickD (id off : Nat) (i : Nat) (st : St) (K : K1 R) : Nat → Nat → Option R
  | _, 0 => none
  | p, f + 1 => if off = p then K (.pdyn id p i) st else pickD id off i st K (p + 1) f
def isIntJ (P : Program) (t : TypeId) : Bool := match P.underlying t with
  | some (.int _) => true
  | _ => false
def indexAddrJ (P : Program) (t : TypeId) (x i : JV) (st : St) (K : K1 R) : Option R :=
  match i with
  | .int _ i => match P.underlying t with
    | some (.slice el) => match x with
      | .full id => match st.H id with
        | some (.row e l _) => cond (Nat.beq (sizeJ P el) e.w && Nat.ble 1 e.w) (if 0 ≤ i ∧ i < (l.length : Int) then K (.pel id i.toNat 0) st else none) none
        | _ => none
      | .sl id off n => match st.H id with
        | some (.row e _ _) => cond (Nat.beq (sizeJ P el) e.w && Nat.ble 1 e.w) (if 0 ≤ i ∧ i < (n : Int) then K (.pel id (off + i.toNat) 0) st else none) none
        | some (.box _ _) => cond (Nat.beq (sizeJ P el) 1) (cond (isIntJ P el) (if 0 ≤ i ∧ i < (n : Int) then pickD id off i.toNat st K 0 8 else none) (if off = 0 ∧ 0 ≤ i ∧ i < (n : Int) then pickB id 0 i st K 0 4 else none)) none
        | none => none
      | .lst esc e l => cond (Nat.beq (sizeJ P el) e.w && Nat.ble 1 e.w) (if 0 ≤ i ∧ i < (l.length : Int) then K (.pim esc (e.cells (l.getD i.toNat e.dflt))) st else none) none
      | _ => none
    | some (.array n el) => match arrOf P 8 el with
      | some _ => match x with
        | .ptr id off => match st.H id with
          | some (.box _ _) => if 0 ≤ i ∧ i < (n : Int) then K (.pdyn id off (i.toNat * sizeJ P el)) st else none
          | _ => none
        | .pdyn id off d => match st.H id with
          | some (.box _ _) => if 0 ≤ i ∧ i < (n : Int) then K (.pdyn id off (d + i.toNat * sizeJ P el)) st else none
          | _ => none
        | _ => none
      | none => match x with
        | .ptr id off => match st.H id with
          | some (.box _ _) => match i with
            | .ofNat j => cond (Nat.blt j n && Nat.ble 1 (sizeJ P el)) (K (.ptr id (off + j * sizeJ P el)) st) none
            | _ => none
          | _ => none
        | _ => none
    | _ => none
  | _ => none
def isArrJ (P : Program) (t : TypeId) : Bool := match P.underlying t with
  | some (.array ..) => true
  | _ => false
def indexJ (P : Program) (t : TypeId) (x i : JV) (st : St) (K : K1 R) : Option R :=
  match i with
  | .int _ i => match P.underlying t with
    | some .string => match x with
      | .str s => if 0 ≤ i ∧ i < (s.length : Int) then K (.int .u8 (s.getD i.toNat 0)) st else none
      | _ => none
    | some (.array n el) => match x with
      | .arr k n' l => if 0 ≤ i ∧ i < (n : Int) then (cond (isArrJ P el) (cond (Nat.beq (n * sizeJ P el) n' && Nat.ble 1 (sizeJ P el)) (K (.arr k (sizeJ P el) ((l.drop (i.toNat * sizeJ P el)).take (sizeJ P el))) st) none) (cond (Nat.beq n n' && Nat.beq (sizeJ P el) 1 && !isAggJ P el) (K (.int k (l.getD i.toNat 0)) st) none)) else none
      | _ => none
    | _ => none
  | _ => none
def cutL {α : Type} (l : List α) (lo hi : Option Int) : List α :=
  match lo, hi with
  | none, none => l
  | some a, none => l.drop a.toNat
  | none, some b => l.take b.toNat
  | some a, some b => (l.take b.toNat).drop a.toNat
def bnd (v : Option JV) (K : Option Int → Option R) : Option R :=
  match v with
  | none => K none
  | some (.int _ n) => K (some n)
  | _ => none
def cutK (n : Nat) (lo hi : Option Int) (K : Unit → Option R) : Option R :=
  match lo, hi with
  | none, none => K ()
  | some a, none => if 0 ≤ a ∧ a ≤ (n : Int) then K () else none
  | none, some b => if 0 ≤ b ∧ b ≤ (n : Int) then K () else none
  | some a, some b => if 0 ≤ b ∧ b ≤ (n : Int) then (if 0 ≤ a ∧ a ≤ b then K () else none) else none
def loN (lo : Option Int) : Nat := match lo with
  | none => 0
  | some a => a.toNat
def hiN (n : Nat) (hi : Option Int) : Nat := match hi with
  | none => n
  | some b => b.toNat
def sliceJ (P : Program) (t : TypeId) (x : JV) (lo hi : Option JV) (st : St) (K : K1 R) : Option R :=
  bnd lo fun lo => bnd hi fun hi => match x with
    | .str s => match P.underlying t with
      | some .string => cutK s.length lo hi fun _ => K (.str (cutL s lo hi)) st
      | _ => none
    | .lst esc e l => match P.underlying t with
      | some (.slice el) => cond (Nat.beq (sizeJ P el) e.w && Nat.ble 1 e.w) (cutK l.length lo hi fun _ => K (.lst esc e (cutL l lo hi)) st) none
      | _ => none
    | .full id => match P.underlying t with
      | some (.slice el) => match st.H id with
        | some (.row e l _) => cond (Nat.beq (sizeJ P el) e.w && Nat.ble 1 e.w) (cutK l.length lo hi fun _ => match lo, hi with
          | none, none => K (.full id) st
          | _, _ => K (.sl id (loN lo) (hiN l.length hi - loN lo)) st) none
        | _ => none
      | _ => none
    | .sl id off n => match P.underlying t with
      | some (.slice el) => match st.H id with
        | some (.row e l _) => cond (Nat.beq (sizeJ P el) e.w && Nat.ble 1 e.w) (match hi with
          | none => cutK n lo none fun _ => K (.sl id (off + loN lo) (n - loN lo)) st
          | some b => if (off : Int) + b ≤ (l.length : Int) then cutK l.length lo (some b) fun _ => K (.sl id (off + loN lo) (b.toNat - loN lo)) st else none) none
        | _ => none
      | _ => none
    | .nils => match P.underlying t with
      | some (.slice el) => cond (Nat.ble 1 (sizeJ P el)) (cutK 0 lo hi fun _ => K .nils st) none
      | _ => none
    | .ptr id off => match P.underlying t with
      | some (.array n el) => match st.H id with
        | some (.box _ _) => cond (Nat.beq (sizeJ P el) 1 && Nat.ble n 9223372036854775807) (match lo with
          | none => match hi with
            | none => K (.sl id off n) st
            | some b => if 0 ≤ b ∧ b ≤ (n : Int) then K (.sl id off b.toNat) st else none
          | some _ => none) none
        | _ => none
      | _ => none
    | _ => none
def convJ (P : Program) (src dst : TypeId) (x : JV) (st : St) (K : K1 R) : Option R :=
  match P.underlying dst with
  | some (.int k) => match P.underlying src, x with
    | some (.int _), .int _ n => K (.int k (k.wrap n)) st
    | _, _ => none
  | some .string => match P.underlying src with
    | some .string => match x with
      | .str s => K (.str s) st
      | _ => none
    | some (.slice e) => match P.underlying e with
      | some (.int .u8) => match x with
        | .str _ => none
        | x => withL (.one (.int .u8)) x st fun l => if l.length ≤ 9223372036854775807 then K (.str l) st else none
      | _ => none
    | _ => none
  | some (.slice e) => match P.underlying src, P.underlying e, x with
    | some .string, some (.int .u8), .str s => K (.full st.nx) (st.new (.row (.one (.int .u8)) s true))
    | _, _, _ => none
  | _ => none
def makeJ (P : Program) (t : TypeId) (n c : JV) (st : St) (K : K1 R) : Option R :=
  match P.underlying t with
  | some (.slice el) => match n with
    | .int _ n => match c with
      | .int _ c => match ekOf P el with
        | some e => match zeroJ P el with
          | some z => match e.un z with
            | some x => cond (Nat.beq (sizeJ P el) e.w && Nat.ble 1 e.w && Nat.ble 1 (bytesJ P el)) (if 0 ≤ n ∧ n ≤ c ∧ c * (bytesJ P el : Int) ≤ (room : Int) then K (.full st.nx) (st.new (.row e (List.replicate n.toNat x) true)) else none) none
            | none => none
          | none => none
        | none => none
      | _ => none
    | _ => none
  | _ => none
def placeJ (P : Program) (t : TypeId) (i : Nat) : Option (Nat × Nat) :=
  match P.underlying t with
  | some (.struct fs) => match fs[i]? with
    | some f => some (f.offset, sizeJ P f.type)
    | none => none
  | some (.array _ e) => some (i * sizeJ P e, sizeJ P e)
  | _ => none
def fillJ (P : Program) (t : TypeId) : List JV → List (Nat × JV) → Option (List JV)
  | cs, [] => some cs
  | _, (_, .junk) :: _ => none
  | _, (_, .tup _) :: _ => none
  | cs, (i, v) :: r => match placeJ P t i with
    | some (o, n) => cond (Nat.beq (wids v.cells) n && Nat.ble 1 n) (match putAt cs o v.cells with
      | some cs' => fillJ P t cs' r
      | none => none) none
    | none => none
def partsOk (P : Program) (t : TypeId) : Bool :=
  match P.underlying t with
  | some (.struct fs) => fs.toList.all fun f => (P.info? f.type).isSome
  | some (.array _ e) => Nat.ble 1 (sizeJ P e)
  | _ => false
def buildJ (P : Program) (t : TypeId) (parts : List (Nat × JV)) (st : St) (K : K1 R) : Option R :=
  match cond (partsOk P t) (zeroJ P t) none with
  | some z => match fillJ P t z parts with
    | some cs => match asVal P t cs with
      | some v => K v st
      | none => none
    | none => none
  | none => none
def elemsJ (e : EK) : Nat → List (Nat × JV) → Option (List e.T)
  | _, [] => some []
  | _, (_, .junk) :: _ => none
  | _, (_, .tup _) :: _ => none
  | j, (i, v) :: r => cond (Nat.beq i j) (match e.un v.cells with
    | some x => match elemsJ e (j + 1) r with
      | some l => some (x :: l)
      | none => none
    | none => none) none
def flatL : Nat → List (Nat × JV) → Option (List JV)
  | _, [] => some []
  | j, (i, v) :: r => cond (Nat.beq i j && v.capt) (match flatL (j + 1) r with
    | some l => some (v :: l)
    | none => none) none
def boxesJ (P : Program) (el : TypeId) (z : List JV) (len : Nat) (parts : List (Nat × JV)) (st : St) (K : K1 R) : Option R :=
  match flatL 0 parts with
  | some cs => cond (Nat.beq parts.length len && Nat.ble (len * sizeJ P el) (2 ^ 24) && Nat.beq (sizeJ P el) 1 && Nat.beq (wids z) 1) (K (.sl st.nx 0 len) (st.new (.box cs true))) none
  | none => none
def buildSliceJ (P : Program) (t : TypeId) (len : Nat) (parts : List (Nat × JV)) (st : St) (K : K1 R) : Option R :=
  match P.underlying t with
  | some (.slice el) => match zeroJ P el with
    | some z => match ekOf P el with
      | some e => match elemsJ e 0 parts with
        | some l => cond (Nat.beq parts.length len && Nat.ble (len * sizeJ P el) (2 ^ 24) && Nat.beq (sizeJ P el) e.w && Nat.beq (wids z) e.w && Nat.ble 1 e.w) (K (.full st.nx) (st.new (.row e l true))) none
        | none => boxesJ P el z len parts st K
      | none => boxesJ P el z len parts st K
    | none => none
  | _ => none
def fieldJ (P : Program) (t : TypeId) (x : JV) (f : Nat) (st : St) (K : K1 R) : Option R :=
  match P.underlying t, x with
  | some (.struct fs), .agg cs => match fs[f]? with
    | some f => match dropAt cs f.offset with
      | some cs => partJ P f.type cs st K
      | none => none
    | none => none
  | _, _ => none
def fieldAddrJ (P : Program) (t : TypeId) (x : JV) (f : Nat) (st : St) (K : K1 R) : Option R :=
  match P.underlying t with
  | some (.struct fs) => match fs[f]? with
    | some f => cond (Nat.beq (sizeJ P f.type) 0) none (match x with
      | .ptr id off => match st.H id with
        | some (.box _ _) => K (.ptr id (off + f.offset)) st
        | _ => none
      | .pel id i c => match st.H id with
        | some (.row _ _ _) => K (.pel id i (c + f.offset)) st
        | _ => none
      | .pim esc cs => match dropAt cs f.offset with
        | some cs => K (.pim esc cs) st
        | none => none
      | _ => none)
    | none => none
  | _ => none
end
abbrev CallJ (R : Type) := FuncId → List JV → St → (JV → St → Option R) → Option R
def YG : Nat := 1000000000
def opndJ (st : St) : Operand → JV
  | .tmp t => st.env t
  | .const (.int k n) => cond (decide (k.min ≤ n) && decide (n ≤ k.max)) (.int k n) .junk
  | .const (.bool b) => .bool b
  | .const (.string s) => cond (Nat.ble s.size 9223372036854775807) (.str (s.data.toList.map fun b => (b.toNat : Int))) .junk
  | .const (.slice none 0 0) => .nils
  | .const (.pointer none) => .nilp
  | .const .nilFunc => .nilf
  | .func f => .fn f []
  | _ => .junk
def partsJ (st : St) (ps : Array (Nat × Operand)) : List (Nat × JV) := ps.toList.map fun p => (p.1, opndJ st p.2)
def foldBin {R : Type} (op : BinOp) : JV → List JV → St → K1 R → Option R
  | x, [], st, K => K x st
  | .int k x, .int k' y :: r, st, K => cond (k == k') (match op with
    | .gtr => foldBin op (.int k (if y > x then y else x)) r st K
    | .lss => foldBin op (.int k (if y < x then y else x)) r st K
    | _ => none) none
  | _, _, _, _ => none
def opJ {R : Type} (P : Program) (C : CallJ R) (o : Op) (type : TypeId) (st : St) (K : K1 R) : Option R :=
  match o with
  | .move x | .assign x => K (opndJ st x) st
  | .pick c a b => asBoolK (opndJ st c) fun t => K (cond t (opndJ st a) (opndJ st b)) st
  | .alloc t => match zeroJ P t with
    | some z => K (.ptr st.nx 0) (st.new (.box z true))
    | none => none
  | .box _ x => match opndJ st x with
    | .tup _ => none
    | .junk => none
    | v => K (.ptr st.nx 0) (st.new (.box v.cells true))
  | .build t ps => buildJ P t (partsJ st ps) st K
  | .buildSlice t n ps => buildSliceJ P t n (partsJ st ps) st K
  | .load t a => loadJ P t (opndJ st a) st K
  | .store t a v => storeJ P t (opndJ st a) (opndJ st v) st K
  | .binOp op t x y _ => binJ P op t (opndJ st x) (opndJ st y) st K
  | .unOp op _ x => match op, opndJ st x with
    | .not, .bool b => K (.bool (!b)) st
    | .neg, .int k n => intOp .sub k 0 n st K
    | .xor, .int k n => intOp .xor k (if k.signed then -1 else k.max) n st K
    | _, _ => none
  | .convert src dst x => convJ P src dst (opndJ st x) st K
  | .nilCheck x => match opndJ st x with
    | .ptr id off => match st.H id with
      | some (.box _ _) => K (.ptr id off) st
      | _ => none
    | _ => none
  | .fieldAddr t x f => fieldAddrJ P t (opndJ st x) f st K
  | .field t x f => fieldJ P t (opndJ st x) f st K
  | .indexAddr t x i => indexAddrJ P t (opndJ st x) (opndJ st i) st K
  | .index t x i => indexJ P t (opndJ st x) (opndJ st i) st K
  | .makeFunc (.func f) first caps => match first.toList with
    | [] => cond (!Nat.beq f YG && (caps.toList.map (opndJ st)).all JV.capt) (K (.fn f (caps.toList.map (opndJ st))) st) none
    | _ => none
  | .makeSlice t n c => makeJ P t (opndJ st n) (opndJ st c) st K
  | .slice t x lo hi mx => match mx with
    | none => sliceJ P t (opndJ st x) (lo.map (opndJ st)) (hi.map (opndJ st)) st K
    | _ => none
  | .extract t i => match opndJ st t with
    | .tup vs => match vs[i]? with
      | some v => K v st
      | none => none
    | _ => none
  | .call c => match c.callee with
    | .builtin b => match b, c.args.toList with
      | .len, [x] => lenJ P c.argTypes[0]? (opndJ st x) st K
      | .append, [x, y] => match c.argTypes[0]? with
        | some t => appendJ P t c.argTypes[1]? (opndJ st x) (opndJ st y) st K
        | none => none
      | .max, x :: r => foldBin .gtr (opndJ st x) (r.map (opndJ st)) st K
      | .min, x :: r => foldBin .lss (opndJ st x) (r.map (opndJ st)) st K
      | _, _ => none
    | .value f => match opndJ st f with
      | .fn f caps => cond (Nat.beq f YG) none (C f (c.args.toList.map (opndJ st) ++ caps) st K)
      | _ => none
    | _ => none
  | _ => none
def opsJ {R : Type} (P : Program) (C : CallJ R) (all : Array Oper) : List Oper → St → (St → Option R) → Option R
  | [], st, K => K st
  | o :: r, st, K => match o.guard with
    | none => opJ P C o.op o.type st fun v st' => opsJ P C all r (st'.set o.dst v) K
    | some (j, want) => match ((all[j]?).bind (·.dst)) with
      | none => none
      | some d => match st.env d with
        | .tup [] => opsJ P C all r (st.set o.dst (.tup [])) K
        | v => asBoolK v fun b =>
          cond (b == want)
            (opJ P C o.op o.type (st.set (some d) (.bool b)) fun v st' => opsJ P C all r (st'.set o.dst v) K)
            (opsJ P C all r ((st.set (some d) (.bool b)).set o.dst (.tup [])) K)
def memB (i : Nat) : List Nat → Bool
  | [] => false
  | j :: r => cond (Nat.beq i j) true (memB i r)
def nodupB : List Nat → Bool
  | [] => true
  | i :: r => !memB i r && nodupB r
def edgesOf (o : Oper) : List Nat := o.after.toList.filterMap fun e => cond (Region.binds .any e) (some e.on) none
def addAll : List Nat → List Nat → List Nat
  | [], acc => acc
  | i :: r, acc => addAll r (cond (memB i acc) acc (i :: acc))
def nthL (as : List (List Nat)) (k : Nat) : List Nat := match as[k]? with
  | some l => l
  | none => []
def ancOf (as : List (List Nat)) : List Nat → List Nat → List Nat
  | [], acc => acc
  | k :: r, acc => ancOf as r (addAll (k :: nthL as k) acc)
def ancsJ : List Oper → List (List Nat) → Option (List (List Nat))
  | [], as => some as
  | o :: r, as => cond ((edgesOf o).all fun k => Nat.blt k as.length) (ancsJ r (as ++ [ancOf as (edgesOf o) []])) none
def dstsOf : List Oper → List Nat
  | [] => []
  | o :: r => match o.dst with
    | some d => d :: dstsOf r
    | none => dstsOf r
def hidB : List Oper → Nat → Nat → List Nat → Nat → Bool
  | [], _, _, _, _ => false
  | o :: r, k, b, an, i => (match o.dst with
    | some d => Nat.beq d i && (Nat.ble b k && !memB k an)
    | none => false) || hidB r (k + 1) b an i
def rgB : List (Nat × Nat × Nat) → List Nat → Nat → Bool
  | [], _, _ => false
  | (k, lo, hi) :: r, an, id => (Nat.ble lo id && Nat.blt id hi && memB k an) || rgB r an id
def seenB (nb : Nat) (rg : List (Nat × Nat × Nat)) (an : List Nat) (id : Nat) : Bool := Nat.blt id nb || rgB rg an id
def JObj.rw : JObj → Bool
  | .box _ rw => rw
  | .row _ _ rw => rw
def JObj.ro : JObj → JObj
  | .box cs _ => .box cs false
  | .row e l _ => .row e l false
def lvJ (H : Nat → Option JObj) (id : Nat) : Option Nat := match H id with
  | some _ => some id
  | none => none
def onlyJ (vis : Nat → Bool) (H : Nat → Option JObj) (id : Nat) : Option JObj := cond (vis id) (match H id with
  | some o => some o.ro
  | none => none) none
def liveH (H : Nat → Option JObj) (id : Nat) : Option JObj := match H id with
  | some o => some (o.ren (lvJ H))
  | none => none
def liveSt (st : St) : St := ⟨fun i => (st.env i).ren (lvJ st.H), liveH st.H, st.nx⟩
def viewSt (all : List Oper) (b nb : Nat) (rg : List (Nat × Nat × Nat)) (an : List Nat) (st : St) : St :=
  ⟨fun i => cond (hidB all 0 b an i) .junk ((st.env i).ren (lvJ (onlyJ (seenB nb rg an) st.H))), liveH (onlyJ (seenB nb rg an) st.H), st.nx⟩
def newJ (vw st' : St) (id : Nat) : Option Nat := match st'.H id with
  | some o => cond (Nat.blt id vw.nx) (lvJ vw.H id) (cond (o.rw && Nat.blt id st'.nx) (some id) none)
  | none => none
def newO (vw st' : St) (id : Nat) : Option JObj := match st'.H id with
  | some o => cond (o.rw && Nat.blt id st'.nx) (some (o.ren (newJ vw st'))) none
  | none => none
def nextSt (st vw st' : St) (v : JV) (dst : Option Nat) : St :=
  St.set ⟨st.env, fun id => cond (Nat.blt id st.nx) (st.H id) (newO vw st' id), st'.nx⟩ dst (v.ren (newJ vw st'))
def coversB (an : List Nat) : Nat → Nat → Bool
  | _, 0 => true
  | b, n + 1 => memB b an && coversB an (b + 1) n
def barB (as : List (List Nat)) (b j : Nat) : Bool := coversB (nthL as j) b (j - b) && (as.drop (j + 1)).all (memB j)
def guardJ {R : Type} (all : List Oper) (g : Option (Nat × Bool)) (st : St) (Y : St → Option R) (N : St → Option R) : Option R :=
  match g with
  | none => Y st
  | some (j, want) => match (match all[j]? with
    | some o => o.dst
    | none => none) with
    | none => none
    | some d => match st.env d with
      | .tup [] => N st
      | v => asBoolK v fun b => cond (b == want) (Y (st.set (some d) (.bool b))) (N (st.set (some d) (.bool b)))
def drawJ {R : Type} (P : Program) (C : CallJ R) (all : List Oper) (as : List (List Nat)) : List Oper → Nat → Nat → Nat → List (Nat × Nat × Nat) → St → (St → Option R) → Option R
  | [], _, _, _, _, st, K => K st
  | o :: r, j, b, nb, rg, st, K => cond (barB as b j)
    (guardJ all o.guard st (fun st => opJ P C o.op o.type st fun v st' => drawJ P C all as r (j + 1) (j + 1) st'.nx [] (st'.set o.dst v) K)
      (fun st => drawJ P C all as r (j + 1) (j + 1) st.nx [] (st.set o.dst (.tup [])) K))
    (let st0 := cond (Nat.beq j b) (liveSt st) st
     guardJ all o.guard (viewSt all b nb rg (nthL as j) st0) (fun vw => opJ P C o.op o.type vw fun v st' => cond (Nat.ble st0.nx st'.nx) (drawJ P C all as r (j + 1) b nb (rg ++ [(j, st0.nx, st'.nx)]) (nextSt st0 vw st' v o.dst) K) none)
      (fun _ => drawJ P C all as r (j + 1) b nb rg (st0.set o.dst (.tup [])) K))
def anyR {R : Type} (P : Program) (C : CallJ R) (ops : Array Oper) (st : St) (K : St → Option R) : Option R :=
  match ancsJ ops.toList [] with
  | some as => cond (nodupB (dstsOf ops.toList)) (drawJ P C ops.toList as ops.toList 0 0 st.nx [] st K) none
  | none => none
def copyO (o : Oper) : Bool := o.guard.isNone && (match o.op with
  | .move _ | .assign _ | .extract _ _ => true
  | _ => false)
def storeO (o : Oper) : Bool := match o.op with
  | .store .. => true
  | _ => false
def subB : List Nat → List Nat → Bool
  | [], _ => true
  | i :: r, l => memB i l && subB r l
def apartL (ops : Array Oper) (oc : Oper) (an : List Nat) (c : Nat) : List Oper → Nat → Bool
  | [], _ => true
  | o :: r, j => (Nat.beq j c || (memB j an || (memB c (edgesOf o) || oc.apart ops o))) && apartL ops oc an c r (j + 1)
def sharpE (ops : Array Oper) (o : Oper) : List Oper → Nat → List Edge
  | [], _ => []
  | oc :: r, c => cond (copyO oc && (!memB c (edgesOf o) && (subB (edgesOf oc) (edgesOf o) && apartL ops oc (edgesOf oc) c ops.toList 0))) (⟨c, .data⟩ :: sharpE ops o r (c + 1)) (sharpE ops o r (c + 1))
def sharp1 (ops : Array Oper) (j : Nat) (o : Oper) : Oper := cond (storeO o) { o with after := o.after ++ (sharpE ops o (ops.toList.take j) 0).toArray } o
def sharpL (ops : Array Oper) : List Oper → Nat → List Oper
  | [], _ => []
  | o :: r, j => sharp1 ops j o :: sharpL ops r (j + 1)
def sharpJ (ops : Array Oper) : Array Oper := cond (Region.noSelect ops) (sharpL ops ops.toList 0).toArray ops
def anyJ {R : Type} (P : Program) (C : CallJ R) (ops : Array Oper) (st : St) (K : St → Option R) : Option R := anyR P C (sharpJ ops) st K
def tmpsOf : Operand → List Nat
  | .tmp t => [t]
  | _ => []
def tmpsO : Option Operand → List Nat
  | some x => tmpsOf x
  | none => []
def readsOf : Op → List Nat
  | .move x | .assign x => tmpsOf x
  | .pick c a b => tmpsOf c ++ (tmpsOf a ++ tmpsOf b)
  | .load _ a => tmpsOf a
  | .store _ a v => tmpsOf a ++ tmpsOf v
  | .nilCheck x => tmpsOf x
  | .build _ ps => (ps.toList.map fun p => tmpsOf p.2).flatten
  | .binOp _ _ x y _ => tmpsOf x ++ tmpsOf y
  | .unOp _ _ x => tmpsOf x
  | .convert _ _ x => tmpsOf x
  | .fieldAddr _ x _ => tmpsOf x
  | .field _ x _ => tmpsOf x
  | .indexAddr _ x i => tmpsOf x ++ tmpsOf i
  | .index _ x i => tmpsOf x ++ tmpsOf i
  | .extract t _ => tmpsOf t
  | .slice _ x lo hi _ => tmpsOf x ++ (tmpsO lo ++ tmpsO hi)
  | .call c => (match c.callee with
    | .value f => tmpsOf f
    | _ => []) ++ (c.args.toList.map tmpsOf).flatten
  | _ => []
def binC : BinOp → Nat
  | .add | .sub | .mul => 0
  | _ => 1
def classO (P : Program) (o : Oper) : Nat :=
  match o.op with
  | .move _ | .assign _ | .nilCheck _ | .fieldAddr .. | .indexAddr .. => 0
  | .binOp op _ _ _ _ => binC op
  | .pick .. | .load .. | .unOp .. | .field .. | .index .. | .extract .. | .slice .. | .build .. => 1
  | .store t .. => match P.underlying t with
    | some (.slice _) => 3
    | _ => 2
  | .convert _ dst _ => match P.underlying dst with
    | some (.slice _) => 3
    | _ => 1
  | .call c => match c.callee with
    | .builtin .len | .builtin .max | .builtin .min => 1
    | .value _ => match P.underlying o.type with
      | some (.int _) | some .bool | some .string => 1
      | _ => 3
    | _ => 3
  | _ => 3
def guardSlot (all : List Oper) (g : Option (Nat × Bool)) : List Nat :=
  match g with
  | none => []
  | some (j, _) => match all[j]? with
    | some o => match o.dst with
      | some d => [d]
      | none => []
    | none => []
def seesOf (all : List Oper) (o : Oper) : List Nat := guardSlot all o.guard ++ readsOf o.op
def slotB (as : List (List Nat)) (j i : Nat) : List Oper → Nat → Bool
  | [], _ => true
  | o :: r, k => (match o.dst with
    | some d => cond (Nat.beq d i) ((Nat.blt k j && memB k (nthL as j)) || (Nat.blt j k && memB j (nthL as k))) true
    | none => true) && slotB as j i r (k + 1)
def cmpB (P : Program) (as : List (List Nat)) (j : Nat) : List Oper → Nat → Bool
  | [], _ => true
  | o :: r, k => (Nat.beq k j || (Nat.beq (classO P o) 0 || (memB k (nthL as j) || memB j (nthL as k)))) && cmpB P as j r (k + 1)
def calmL (P : Program) (all : List Oper) (as : List (List Nat)) : List Oper → Nat → Bool
  | [], _ => true
  | o :: r, j => (Nat.ble (classO P o) 2 && cond (Nat.beq (classO P o) 2) (o.dst.isNone && cmpB P as j all 0) true) && ((seesOf all o).all (fun i => slotB as j i all 0) && calmL P all as r (j + 1))
def calmB (P : Program) (all : List Oper) : Bool :=
  match ancsJ all [] with
  | some as => nodupB (dstsOf all) && calmL P all as all 0
  | none => false
def roH (H : Nat → Option JObj) (id : Nat) : Option JObj := match H id with
  | some o => some o.ro
  | none => none
def maskC (all : List Oper) (o : Oper) (st : St) : St := ⟨fun i => cond (memB i (seesOf all o)) (st.env i) .junk, roH st.H, st.nx⟩
def backC (nx : Nat) (H' : Nat → Option JObj) (id : Nat) : Option Nat := cond (Nat.blt id nx) (lvJ H' id) none
def maskE (all : List Oper) (o : Oper) (st : St) : St := ⟨fun i => cond (memB i (seesOf all o)) (st.env i) .junk, st.H, st.nx⟩
def calmJ {R : Type} (P : Program) (C : CallJ R) (all : List Oper) : List Oper → St → (St → Option R) → Option R
  | [], st, K => K st
  | o :: r, st, K => guardJ all o.guard st
    (fun st => match o.op with
      | .store t a v => store1J P t (opndJ (maskE all o st) a) (opndJ (maskE all o st) v) (maskE all o st) fun _ st' => calmJ P C all r ⟨st.env, st'.H, st.nx⟩ K
      | op => opJ P C op o.type (maskC all o st) fun v st' => calmJ P C all r (st.set o.dst (v.ren (backC st.nx st'.H))) K)
    (fun st => calmJ P C all r (st.set o.dst (.tup [])) K)
def aheadB (as : List (List Nat)) (j i : Nat) : List Oper → Nat → Bool
  | [], _ => true
  | o :: r, k => (match o.dst with
    | some d => cond (Nat.beq d i) (Nat.blt k j && memB k (nthL as j)) true
    | none => true) && aheadB as j i r (k + 1)
def readsB : Op → List Nat
  | .buildSlice _ _ ps => (ps.toList.map fun p => tmpsOf p.2).flatten
  | op => readsOf op
def seesB (all : List Oper) (o : Oper) : List Nat := guardSlot all o.guard ++ readsB o.op
def afterB (all : List Oper) (as : List (List Nat)) (k d : Nat) : List Oper → Nat → Bool
  | [], _ => true
  | o :: r, j => cond (memB d (seesB all o)) (memB k (nthL as j)) true && afterB all as k d r (j + 1)
def appB (all : List Oper) (d : Option Nat) : Bool := match d with
  | some d => all.any fun o => match o.op with
    | .call c => match c.callee with
      | .builtin .append => memB d ((c.args.toList.take 1).flatMap tmpsOf)
      | _ => false
    | _ => false
  | none => false
def classB (P : Program) (all : List Oper) (as : List (List Nat)) (j : Nat) (o : Oper) : Nat :=
  match o.op with
  | .move x | .assign x | .extract x _ => match o.dst with
    | some d => cond ((tmpsOf x).all (fun i => aheadB as j i all 0) && afterB all as j d all 0) 0 1
    | none => 1
  | .alloc _ => match o.dst with
    | some d => cond (o.guard.isNone && afterB all as j d all 0) 3 4
    | none => 4
  | .store .. => 2
  | .buildSlice .. => cond (appB all o.dst) 2 1
  | .call c => match c.callee with
    | .builtin .append => 2
    | .value _ => match P.underlying o.type with
      | some (.int _) | some .bool | some .string => 1
      | _ => 2
    | _ => cond (Nat.ble (classO P o) 1) 1 4
  | _ => cond (Nat.ble (classO P o) 1) 1 4
def moveB : Op → Bool
  | .extract .. => false
  | _ => true
def floatB (c : Nat) : Bool := Nat.beq c 0 || Nat.beq c 3
def cmpB2 (P : Program) (all : List Oper) (as : List (List Nat)) (j : Nat) : List Oper → Nat → Bool
  | [], _ => true
  | o :: r, k => (Nat.beq k j || (floatB (classB P all as k o) || (memB k (nthL as j) || memB j (nthL as k)))) && cmpB2 P all as j r (k + 1)
def nonB (P : Program) (all : List Oper) (as : List (List Nat)) (an : List Nat) (j : Nat) : List Oper → Nat → Bool
  | [], _ => true
  | o :: r, m => (Nat.blt j m || (Nat.beq (classB P all as m o) 0 || memB m an)) && nonB P all as an j r (m + 1)
def allocB (P : Program) (all : List Oper) (as : List (List Nat)) (j : Nat) : List Oper → Nat → Bool
  | [], _ => true
  | o :: r, k => (Nat.ble k j || ((floatB (classB P all as k o) && (o.guard.isNone && moveB o.op)) || nonB P all as (nthL as k) j all 0)) && allocB P all as j r (k + 1)
def briskL (P : Program) (all : List Oper) (as : List (List Nat)) : List Oper → Nat → Bool
  | [], _ => true
  | o :: r, j => ((match classB P all as j o with
    | 0 => true
    | 1 => true
    | 2 => cmpB2 P all as j all 0
    | 3 => allocB P all as j all 0
    | _ => false) && (seesB all o).all (fun i => slotB as j i all 0)) && briskL P all as r (j + 1)
def briskB (P : Program) (all : List Oper) : Bool :=
  match ancsJ all [] with
  | some as => nodupB (dstsOf all) && briskL P all as all 0
  | none => false
def copyB (P : Program) (all : List Oper) (as : List (List Nat)) (j i : Nat) : List Oper → Nat → Bool
  | [], _ => false
  | o :: r, k => (match o.dst with
    | some d => cond (Nat.beq d i) (floatB (classB P all as k o) && !memB k (nthL as j)) false
    | none => false) || copyB P all as j i r (k + 1)
def maskW (P : Program) (all : List Oper) (as : List (List Nat)) (j : Nat) (st : St) : St := ⟨fun i => cond (copyB P all as j i all 0) .junk (st.env i), st.H, st.nx⟩
def maskB (all : List Oper) (o : Oper) (st : St) : St := ⟨fun i => cond (memB i (seesB all o)) (st.env i) .junk, roH st.H, st.nx⟩
def opndQ (o : Op) (st : St) : JV := match o with
  | .move x | .assign x => opndJ st x
  | .extract x i => match opndJ st x with
    | .tup vs => vs.getD i .junk
    | _ => .junk
  | _ => .junk
def okQ (o : Op) (st : St) : Bool := match o with
  | .extract x i => match opndJ st x with
    | .tup vs => Nat.blt i vs.length
    | _ => false
  | _ => true
def frzJ (nx : Nat) (H' : Nat → Option JObj) (v : JV) : JV := match v with
  | .full id => match H' id with
    | some (.row e l true) => cond (Nat.ble nx id && Nat.ble 1 e.w) (.lst false e l) (v.ren (backC nx H'))
    | _ => v.ren (backC nx H')
  | v => v.ren (backC nx H')
def ownJ (H : Nat → Option JObj) (nb : Nat) : Nat → Bool
  | 0 => true
  | n + 1 => (match H (nb + n) with
    | some o => o.rw
    | none => true) && ownJ H nb n
def briskJ {R : Type} (P : Program) (C : CallJ R) (all : List Oper) (as : List (List Nat)) (nb : Nat) : List Oper → Nat → St → (St → Option R) → Option R
  | [], _, st, K => K st
  | o :: r, j, st, K => guardJ all o.guard st
    (fun st => match classB P all as j o with
      | 0 => cond (okQ o.op st) (briskJ P C all as nb r (j + 1) (st.set o.dst (opndQ o.op st)) K) none
      | 1 => opJ P C o.op o.type (maskB all o st) fun v st' => briskJ P C all as nb r (j + 1) (st.set o.dst (frzJ st.nx st'.H v)) K
      | c => opJ P C o.op o.type (maskW P all as j st) fun v st' => cond (Nat.beq c 3) (cond (Nat.ble nb st.nx && ownJ st.H nb (st.nx - nb)) (briskJ P C all as nb r (j + 1) ⟨(st.set o.dst v).env, st'.H, st'.nx⟩ K) none)
          (cond (Nat.ble st.nx st'.nx) (briskJ P C all as nb r (j + 1) ⟨(st.set o.dst v).env, st'.H, st'.nx⟩ K) none))
    (fun st => briskJ P C all as nb r (j + 1) (st.set o.dst (.tup [])) K)
def briskR {R : Type} (P : Program) (C : CallJ R) (all : List Oper) (st : St) (K : St → Option R) : Option R :=
  match ancsJ all [] with
  | some as => briskJ P C all as st.nx all 0 st K
  | none => none
structure GrowL where
  b : Nat
  k : Nat
  m : Nat
  a1 : Nat
  c : Nat
  d1 : Nat
  d2 : Nat
  d3 : Nat
  e1 : Nat
  e2 : Nat
  N : Nat
  kd : IntKind
  v : Int
  t : TypeId
  argTypes : Array TypeId
def unG (o : Oper) : Option Nat := match o.guard with
  | some _ => none
  | none => o.dst
def moveP (o : Oper) : Option (Nat × Nat) := match unG o with
  | some d => match o.op with
    | .move (.tmp s) => some (s, d)
    | .assign (.tmp s) => some (s, d)
    | _ => none
  | none => none
def cmpP (o : Oper) : Option (Nat × Int × Nat) := match unG o with
  | some d => match o.op with
    | .binOp .lss _ (.tmp s) (.const (.int .i64 n)) _ => some (s, n, d)
    | _ => none
  | none => none
def addP (o : Oper) : Option (Nat × Int × Nat) := match unG o with
  | some d => match o.op with
    | .binOp .add _ (.tmp s) (.const (.int .i64 n)) _ => some (s, n, d)
    | _ => none
  | none => none
def bldP (o : Oper) : Option (TypeId × IntKind × Int × Nat) := match unG o with
  | some d => match o.op with
    | .buildSlice t n ps => match n with
      | 1 => match ps.toList with
        | [(0, .const (.int k v))] => some (t, k, v, d)
        | _ => none
      | _ => none
    | _ => none
  | none => none
def appP (o : Oper) : Option (Array TypeId × Nat × Nat × Nat) := match unG o with
  | some d => match o.op with
    | .call c => match c.callee with
      | .builtin .append => match c.args.toList with
        | [.tmp x, .tmp y] => some (c.argTypes, x, y, d)
        | _ => none
      | _ => none
    | _ => none
  | none => none
def growO (b c : Nat) (o1 o2 o3 : List Oper) : Option GrowL :=
  match o1, o2, o3 with
  | [p1, p2], [q1, q2, q3, q4], [r1, r2, r3] =>
    match moveP p1, cmpP p2, moveP q1 with
    | some (k, a1), some (s2, N, c'), some (m, d1) => match bldP q2, appP q3, moveP q4 with
      | some (t, kd, v, d2), some (argTypes, x, y, d3), some (s4, m') => match moveP r1, addP r2, moveP r3 with
        | some (k', e1), some (s5, one, e2), some (s6, k'') =>
          cond ((Nat.beq s2 a1 && Nat.beq c' c && Nat.beq x d1 && Nat.beq y d2 && Nat.beq s4 d3 && Nat.beq m' m) && (Nat.beq k' k && Nat.beq s5 e1 && Nat.beq s6 e2 && Nat.beq k'' k) && (decide (one = 1) && decide (0 ≤ N) && decide (N ≤ 1000000)) &&
              (!Nat.beq k m && !Nat.beq a1 k && !Nat.beq a1 m && !Nat.beq c k && !Nat.beq c m && !Nat.beq d1 k && !Nat.beq d1 m && !Nat.beq d2 k && !Nat.beq d2 m && !Nat.beq d2 d1 && !Nat.beq d3 k && !Nat.beq d3 m && !Nat.beq e1 k && !Nat.beq e1 m && !Nat.beq e2 k && !Nat.beq e2 m))
            (some ⟨b, k, m, a1, c, d1, d2, d3, e1, e2, N.toNat, kd, v, t, argTypes⟩) none
        | _, _, _ => none
      | _, _, _ => none
    | _, _, _ => none
  | _, _, _ => none
def growP (c : Code) : Option GrowL :=
  match c with
  | .loop (.seq (.seq (.region _ o1 false) (.cond (.tmp c) .skip (.exit b))) (.seq (.block _ (.region _ o2 false)) (.region _ o3 false))) => growO b c o1.toList o2.toList o3.toList
  | _ => none
def GrowL.hit (g : GrowL) : List Nat := [g.k, g.m, g.a1, g.c, g.d1, g.d2, g.d3, g.e1, g.e2]
def ovrL {α : Type} (l : List α) (pos : Nat) (v : α) (n : Nat) : List α := l.take pos ++ (List.replicate (min n (l.length - pos)) v ++ l.drop (pos + n))
def growH {R : Type} (P : Program) (g : GrowL) (st : St) (K : St → Option R) : Option R :=
  match P.underlying g.t with
  | some (.slice el) => match P.underlying el with
    | some (.int kd) => match P.info? el with
      | some info => match info.zero with
        | some z => cond (Nat.beq (sizeJ P el) 1 && Nat.beq z.cells.size 1 && Nat.ble 1 (bytesJ P el) && decide (kd = g.kd) && decide (kd.min ≤ g.v) && decide (g.v ≤ kd.max) && tailJ P g.argTypes[1]? && decide (g.argTypes[0]? = some g.t))
          (match st.env g.k with
            | .int k0 n0 => cond (decide (k0 = .i64) && decide (n0 = 0)) (match st.env g.m with
              | .full id => match st.H id with
                | some (.row e l true) => match castL (.one (.int kd)) e l with
                  | some l => if (l.length + g.N) * bytesJ P el ≤ room then K ⟨fun i => cond (memB i g.hit) .junk (st.env i), st.H, st.nx⟩ else none
                  | none => none
                | _ => none
              | .sl id off n => match st.H id with
                | some (.row e l true) => match castL (.one (.int kd)) e l with
                  | some l => if (n + g.N) * bytesJ P el ≤ room then K ⟨fun i => cond (memB i g.hit) .junk (st.env i), upd st.H id (some (.row (.one (.int kd)) (ovrL l (off + n) g.v g.N) true)), st.nx⟩ else none
                  | none => none
                | _ => none
              | _ => none) none
            | _ => none) none
        | none => none
      | none => none
    | _ => none
  | _ => none
def headId : Code → Nat
  | .region id _ _ => id
  | .seq a _ => headId a
  | .cond _ a _ => headId a
  | .block _ c | .scope c => headId c
  | .loop c => headId c + 500
  | _ => 0
inductive JX where
  | normal | exit (id : Nat) | ret
section
variable {R : Type} (P : Program) (C : CallJ R) (L : Nat → St → Option R)
def andThen (K' : St → Option R) (K : JX → St → Option R) : JX → St → Option R
  | .normal, st => K' st
  | e, st => K e st
def inBlk (id : Nat) (K : JX → St → Option R) : JX → St → Option R
  | .exit id', st => cond (Nat.beq id' id) (K .normal st) (K (.exit id') st)
  | e, st => K e st
def codeJ : Code → St → (JX → St → Option R) → Option R
  | .skip, st, K => K .normal st
  | .region _ ops draw, st, K => cond draw (cond (calmB P ops.toList) (calmJ P C ops.toList ops.toList st (K .normal)) (cond (briskB P ops.toList) (briskR P C ops.toList st (K .normal)) (anyJ P C ops st (K .normal)))) (opsJ P C ops ops.toList st (K .normal))
  | .seq a b, st, K => codeJ a st (andThen (fun st' => codeJ b st' K) K)
  | .cond c a b, st, K => asBoolK (opndJ st c) fun t => cond t (codeJ a st K) (codeJ b st K)
  | .block id c, st, K => match growP c with
    | some g => cond (Nat.beq g.b id) (growH P g st (K .normal)) none
    | none => codeJ c st (inBlk id K)
  | .loop c, st, _ => L (headId c) st
  | .exit id, st, K => K (.exit id) st
  | .ret, st, K => K .ret st
  | _, _, _ => none
def allJ (n : Nat) : Code → (JX → St → Option R) → List (Code × (JX → St → Option R))
  | .seq a b, K => allJ n a (andThen (fun st' => codeJ P C L b st' K) K) ++ allJ n b K
  | .cond _ a b, K => allJ n a K ++ allJ n b K
  | .block id c, K => allJ n c (inBlk id K)
  | .loop c, K => cond (Nat.beq (headId c) n) [(c, andThen (L (headId c)) K)] [] ++ allJ n c (andThen (L (headId c)) K)
  | _, _ => []
def roundJ (n : Nat) (c : Code) (K : JX → St → Option R) (st : St) : Option R :=
  match allJ P C L n c K with
  | [(c', K')] => codeJ P C L c' st K'
  | _ => none
end
end Go.Eng

namespace Go.Eng
mutual
inductive VP where
  | int (k : IntKind) | bool | str | nilp | nils | nilf | junk
  | ptr (id off : Nat) | full (id : Nat) | sl (id : Nat)
  | lst (esc : Bool) (e : EK) | fn (f : FuncId) (caps : VPL) | arr (k : IntKind) (n : Nat) | agg (ps : VPL) | tup (ps : VPL)
inductive VPL where
  | nil | cons (p : VP) (r : VPL)
end
mutual
@[reducible] def VP.T : VP → Type
  | .int _ => Int
  | .bool => Bool
  | .str => List Int
  | .sl _ => Nat × Nat
  | .lst _ e => List e.T
  | .fn _ caps => caps.T
  | .arr _ _ => List Int
  | .agg ps => ps.T
  | .tup ps => ps.T
  | _ => Unit
@[reducible] def VPL.T : VPL → Type
  | .nil => Unit
  | .cons p r => p.T × r.T
end
mutual
def VP.mk : (p : VP) → p.T → JV
  | .int k, n => .int k n
  | .bool, b => .bool b
  | .str, s => .str s
  | .nilp, _ => .nilp
  | .nils, _ => .nils
  | .nilf, _ => .nilf
  | .junk, _ => .junk
  | .ptr id off, _ => .ptr id off
  | .full id, _ => .full id
  | .sl id, x => .sl id x.1 x.2
  | .lst esc e, l => .lst esc e l
  | .fn f caps, x => .fn f (caps.mk x)
  | .arr k n, l => .arr k n l
  | .agg ps, x => .agg (ps.mk x)
  | .tup ps, x => .tup (ps.mk x)
def VPL.mk : (p : VPL) → p.T → List JV
  | .nil, _ => []
  | .cons p r, x => p.mk x.1 :: r.mk x.2
end
mutual
def VP.get : (p : VP) → JV → Option p.T
  | .int k, .int k' n => if k = k' then some n else none
  | .bool, .bool b => some b
  | .str, .str s => some s
  | .nilp, .nilp => some ()
  | .nils, .nils => some ()
  | .nilf, .nilf => some ()
  | .junk, .tup _ => none
  | .junk, .agg _ => none
  | .junk, .arr .. => none
  | .junk, _ => some ()
  | .ptr id off, .ptr id' off' => cond (Nat.beq id id' && Nat.beq off off') (some ()) none
  | .full id, .full id' => cond (Nat.beq id id') (some ()) none
  | .sl id, .sl id' off len => cond (Nat.beq id id') (some (off, len)) none
  | .lst esc e, .lst esc' e' l => cond (!esc || esc') (castL e e' l) none
  | .lst _ _, .nils => some []
  | .fn f caps, .fn f' vs => cond (Nat.beq f f') (caps.get vs) none
  | .arr k n, .arr k' n' l => if k = k' ∧ n = n' then some l else none
  | .agg ps, .agg vs => ps.get vs
  | .tup ps, .tup vs => ps.get vs
  | _, _ => none
def VPL.get : (p : VPL) → List JV → Option p.T
  | .nil, [] => some ()
  | .cons p r, v :: vs => match p.get v with
    | some x => match r.get vs with
      | some y => some (x, y)
      | none => none
    | none => none
  | _, _ => none
end
inductive OP where
  | box (ps : VPL) (rw : Bool)
  | row (e : EK) (rw : Bool)
  | gone
@[reducible] def OP.T : OP → Type
  | .box ps _ => ps.T
  | .row e _ => List e.T
  | .gone => Unit
def OP.mk : (p : OP) → p.T → Option JObj
  | .box ps rw, x => some (.box (ps.mk x) rw)
  | .row e rw, l => some (.row e l rw)
  | .gone, _ => none
def OP.get : (p : OP) → Option JObj → Option p.T
  | .box ps rw, some (.box vs rw') => cond (!rw || rw') (ps.get vs) none
  | .row e rw, some (.row e' l rw') => cond (!rw || rw') (castL e e' l) none
  | .gone, _ => some ()
  | _, _ => none
def OP.rw : OP → Bool
  | .box _ rw => rw
  | .row _ rw => rw
  | .gone => false
@[reducible] def OPL.T : List OP → Type
  | [] => Unit
  | p :: r => p.T × OPL.T r
def OPL.mk : (l : List OP) → OPL.T l → List (Option JObj)
  | [], _ => []
  | p :: r, x => p.mk x.1 :: OPL.mk r x.2
def OPL.get : (l : List OP) → List (Option JObj) → Option (OPL.T l)
  | [], [] => some ()
  | p :: r, o :: os => match p.get o with
    | some x => match OPL.get r os with
      | some y => some (x, y)
      | none => none
    | none => none
  | _, _ => none
mutual
def JV.ids : JV → List Nat
  | .ptr id _ => [id]
  | .pdyn id _ _ => [id]
  | .pel id _ _ => [id]
  | .full id => [id]
  | .sl id _ _ => [id]
  | .pim _ cs => idsL cs
  | .fn _ cs => idsL cs
  | .agg cs => idsL cs
  | .tup cs => idsL cs
  | _ => []
def idsL : List JV → List Nat
  | [] => []
  | v :: r => v.ids ++ idsL r
end
def JObj.ids : JObj → List Nat
  | .box cs _ => idsL cs
  | .row _ _ _ => []
def reach (H : Nat → Option JObj) : Nat → List Nat → List Nat → List Nat
  | 0, _, acc => acc
  | _ + 1, [], acc => acc
  | n + 1, i :: r, acc => cond (memB i acc) (reach H n r acc) (match H i with
    | some o => reach H n (o.ids ++ r) (acc ++ [i])
    | none => reach H n r acc)
def idx : List Nat → Nat → Option Nat
  | [], _ => none
  | j :: r, i => cond (Nat.beq i j) (some 0) (match idx r i with
    | some k => some (k + 1)
    | none => none)
def listAt {α : Type} (l : List (Option α)) (i : Nat) : Option α := match l[i]? with
  | some o => o
  | none => none
mutual
def coe (os : List OP) : VP → JV → St → JV × St
  | .full id, .nils, st => match os[id]? with
    | some (.row e _) => (.full st.nx, st.new (.row e [] true))
    | _ => (.nils, st)
  | .agg ps, .agg vs, st => match coeL os ps vs st with
    | (vs', st') => (.agg vs', st')
  | .tup ps, .tup vs, st => match coeL os ps vs st with
    | (vs', st') => (.tup vs', st')
  | _, v, st => (v, st)
def coeL (os : List OP) : VPL → List JV → St → List JV × St
  | .cons p ps, v :: vs, st => match coe os p v st with
    | (v', st') => match coeL os ps vs st' with
      | (vs', st'') => (v' :: vs', st'')
  | _, vs, st => (vs, st)
end
def objIds (H : Nat → Option JObj) (i : Nat) : List Nat := match H i with
  | some o => o.ids
  | none => []
def orderJ (H : Nat → Option JObj) (m : Nat) (vs : List JV) : List Nat := reach H 99 ((List.range m).flatMap (objIds H) ++ idsL vs) (List.range m)
def coeB (os : List OP) (m : Nat) (ws : List JV) : List OP → Nat → St → St
  | .box ps _ :: r, i, st => match (orderJ st.H m ws)[i]? with
    | some id => match st.H id with
      | some (.box vs rw) => match coeL os ps vs st with
        | (vs', st') => coeB os m ws r (i + 1) (st'.put id (.box vs' rw))
      | _ => coeB os m ws r (i + 1) st
    | none => coeB os m ws r (i + 1) st
  | _ :: r, i, st => coeB os m ws r (i + 1) st
  | [], _, st => st
def canonJ (m : Nat) (ps : VPL) (os : List OP) (vs : List JV) (st : St) : Option (St × List Nat × ps.T × OPL.T os) :=
  match coeL os ps vs st with
  | (vs1, st1) =>
    let st2 := coeB os m vs1 os 0 st1
    let order := orderJ st2.H m vs1
    cond (nodupB order) (match ps.get (renL (idx order) vs1) with
      | some x => match OPL.get os (order.map fun i => match st2.H i with
          | some o => some (o.ren (idx order))
          | none => none) with
        | some y => some (st2, order, x, y)
        | none => none
      | none => none) none
def lookL : List Nat → List JV → Nat → JV
  | s :: ss, v :: vs, i => cond (Nat.beq i s) v (lookL ss vs i)
  | _, _, _ => .junk
def stAt (slots : List Nat) (ps : VPL) (os : List OP) (x : ps.T) (y : OPL.T os) : St := ⟨lookL slots (ps.mk x), listAt (OPL.mk os y), os.length⟩
def eqB : Bool → Bool → Bool
  | true, b => b
  | false, b => !b
def rwOK (H : Nat → Option JObj) : List OP → List Nat → Bool
  | p :: ps, i :: is => (match p with
    | .gone => true
    | p => match H i with
      | some (.box _ rw) => eqB p.rw rw
      | some (.row _ _ rw) => eqB p.rw rw
      | none => true) && rwOK H ps is
  | _, _ => true
def cutJ {R : Type} (m : Nat) (slots : List Nat) (ps : VPL) (os : List OP) (F : ps.T → OPL.T os → Option R) (st : St) : Option R :=
  match canonJ m ps os (slots.map st.env) st with
  | some (st2, order, x, y) => cond (rwOK st2.H os order) (F x y) none
  | none => none
structure Cut (B : Type) where
  id : Nat
  slots : List Nat
  ps : VPL
  os : List OP
  F : Nat → ps.T → OPL.T os → Option B
def Lof {B : Type} (m k : Nat) : List (Cut B) → Nat → St → Option B
  | [], _, _ => none
  | c :: r, n, st => cond (Nat.beq n c.id) (cutJ m c.slots c.ps c.os (c.F k) st) (Lof m k r n st)
mutual
def prep (H : Nat → Option JObj) : VP → JV → JV × List Nat
  | .lst false e, .full id => match H id with
    | some (.row e' l _) => match castL e e' l with
      | some l => cond (Nat.ble 1 e.w) (.lst false e l, [id]) (.full id, [])
      | none => (.full id, [])
    | _ => (.full id, [])
  | .lst false e, .sl id off n => match H id with
    | some (.row e' l _) => match castL e e' ((l.drop off).take n) with
      | some l => cond (Nat.ble 1 e.w) (.lst false e l, [id]) (.sl id off n, [])
      | none => (.sl id off n, [])
    | _ => (.sl id off n, [])
  | .agg ps, .agg vs => match prepL H ps vs with
    | (vs', c) => (.agg vs', c)
  | _, v => (v, [])
def prepL (H : Nat → Option JObj) : VPL → List JV → List JV × List Nat
  | .cons p ps, v :: vs => match prep H p v with
    | (v', c) => match prepL H ps vs with
      | (vs', c') => (v' :: vs', c ++ c')
  | _, vs => (vs, [])
end
def rwIds : List OP → List Nat → List Nat
  | p :: ps, i :: is => cond p.rw (i :: rwIds ps is) (rwIds ps is)
  | _, _ => []
def disjB : List Nat → List Nat → Bool
  | [], _ => true
  | i :: r, l => !memB i l && disjB r l
def backJ (order : List Nat) (m nx : Nat) (objs : List (Option JObj)) (i : Nat) : Option Nat := match listAt objs i with
  | some _ => cond (Nat.blt i m) order[i]? (some (nx + (i - m)))
  | none => none
def renO (f : Nat → Option Nat) : Option JObj → Option JObj
  | some o => some (o.ren f)
  | none => none
def mergeJ (f : Nat → Option Nat) : List OP → List Nat → List (Option JObj) → Nat → (Nat → Option JObj) → Nat × (Nat → Option JObj)
  | p :: ps, i :: is, o :: os, nx, H => mergeJ f ps is os nx (cond p.rw (upd H i (renO f o)) H)
  | _, _, o :: os, nx, H => mergeJ f [] [] os (nx + 1) (upd H nx (renO f o))
  | _, _, [], nx, H => (nx, H)
abbrev Alt := VP × List OP
@[reducible] def Alt.T (a : Alt) : Type := a.1.T × OPL.T a.2
@[reducible] def AT : List Alt → Type
  | [] => Empty
  | [a] => Alt.T a
  | a :: b :: r => Alt.T a ⊕ AT (b :: r)
def altK {R : Type} (K : JV → List (Option JObj) → Option R) : (l : List Alt) → AT l → Option R
  | [], _ => none
  | [a], x => K (a.1.mk x.1) (OPL.mk a.2 x.2)
  | a :: b :: r, s => match s with
    | .inl x => K (a.1.mk x.1) (OPL.mk a.2 x.2)
    | .inr y => altK K (b :: r) y
def fitsJ (pin : VPL) (os : List OP) (args : List JV) (st : St) : Bool :=
  match prepL st.H pin args with
  | (args1, _) => match canonJ 0 pin os args1 st with
    | some _ => true
    | none => false
def callSg {R : Type} (pin : VPL) (os : List OP) (alts : List Alt) (F : pin.T → OPL.T os → Option (AT alts)) (args : List JV) (st : St) (K : JV → St → Option R) : Option R :=
  match prepL st.H pin args with
  | (args1, cv) => match canonJ 0 pin os args1 st with
    | some (st2, order, x, y) => cond (disjB cv (rwIds os order)) (match F x y with
      | some z => altK (fun v objs =>
        match mergeJ (backJ order os.length st2.nx objs) os order objs st2.nx st2.H with
        | (nx', H') => K (v.ren (backJ order os.length st2.nx objs)) ⟨st.env, H', nx'⟩) alts z
      | none => none) none
    | none => none
def resJ (P : Program) (st : St) : List ResultVar → Option (List JV)
  | [] => some []
  | .tmp t :: r => match resJ P st r with
    | some vs => match st.env t with
      | .tup _ => none
      | v => some (v :: vs)
    | none => none
  | .cell q t :: r => match resJ P st r with
    | some vs => match viewJ (st.env q) st (fun cs => match takeAt cs (sizeJ P t) with
      | some cs => asVal P t cs
      | none => none) with
      | some (.tup _) => none
      | some v => some (v :: vs)
      | none => none
    | none => none
def oneJ : List JV → JV
  | [v] => v
  | vs => .tup vs
def retA {B : Type} (m : Nat) (v : JV) (st : St) : (l : List Alt) → (AT l → B) → Option B
  | [], _ => none
  | [a], f => match canonJ m (.cons a.1 .nil) a.2 [v] st with
    | some (st2, order, x, y) => cond (rwOK st2.H a.2 order) (some (f (x.1, y))) none
    | none => none
  | a :: b :: r, f => match canonJ m (.cons a.1 .nil) a.2 [v] st with
    | some (st2, order, x, y) => cond (rwOK st2.H a.2 order) (some (f (.inl (x.1, y)))) none
    | none => retA m v st (b :: r) (fun y => f (.inr y))
def endJ (P : Program) (m : Nat) (res : List ResultVar) (alts : List Alt) : JX → St → Option (AT alts)
  | .exit _, _ => none
  | _, st => match resJ P st res with
    | some vs => retA m (oneJ vs) st alts id
    | none => none
def argAt : List JV → Nat → JV
  | [], _ => .junk
  | v :: _, 0 => v
  | _ :: r, n + 1 => argAt r n
def st0 (pin : VPL) (os : List OP) (x : pin.T) (y : OPL.T os) : St := ⟨argAt (pin.mk x), listAt (OPL.mk os y), os.length⟩
def isRow : Option OP → Bool
  | some (.row ..) => true
  | _ => false
def mvF (os : List OP) (i : Nat) : Option Nat := cond (isRow os[i]?) (some (os.length + i)) (some i)
def mvH (os : List OP) (H : Nat → Option JObj) (j : Nat) : Option JObj :=
  cond (Nat.blt j os.length) (cond (isRow os[j]?) none (match H j with
    | some o => some (o.ren (mvF os))
    | none => none)) (cond (isRow os[j - os.length]?) (H (j - os.length)) none)
def st0M (pin : VPL) (os : List OP) (x : pin.T) (y : OPL.T os) : St := ⟨argAt (renL (mvF os) (pin.mk x)), mvH os (listAt (OPL.mk os y)), os.length + os.length⟩
mutual
def VP.esc : VP → Bool
  | .lst esc _ => esc
  | .fn _ caps => caps.esc
  | .agg ps => ps.esc
  | .tup ps => ps.esc
  | _ => true
def VPL.esc : VPL → Bool
  | .nil => true
  | .cons p r => p.esc && r.esc
end
def OP.esc : OP → Bool
  | .box ps _ => ps.esc
  | _ => true
def altOK : List OP → List OP → Bool
  | p :: ps, q :: qs => (match q with
    | .gone => true
    | q => eqB q.rw p.rw) && q.esc && altOK ps qs
  | [], q :: qs => (match q with
    | .gone => true
    | q => q.rw) && q.esc && altOK [] qs
  | [], [] => true
  | _ :: _, [] => false
def altsOK (os : List OP) : List Alt → Bool
  | [] => true
  | a :: r => a.1.esc && altOK os a.2 && altsOK os r
end Go.Eng

namespace Go.Eng
def oneC : Value → Bool
  | .agg _ | .tuple _ => false
  | _ => true
structure Place where
  blk : Nat
  off : Nat
  room : Nat
structure En where
  nx : Nat
  φ : Nat → Place
  im : Option Bool → Nat → Option (Array Value)
def inK (k : IntKind) (n : Int) : Prop := k.min ≤ n ∧ n ≤ k.max
inductive Shape where
  | none | box | row (e : EK) (n : Nat)
def shp : Option JObj → Shape
  | some (.box _ _) => .box
  | some (.row e l _) => .row e l.length
  | none => .none
def SlOK (p : Place) (w off n N : Nat) (v : Value) : Prop :=
  ∃ base cap, v = .slice base n cap ∧ n ≤ cap ∧ N ≤ off + cap ∧ (off + cap) * w ≤ p.room ∧ (cap = 0 ∨ base = some ⟨p.blk, p.off + off * w, none⟩)
def ML : Nat := 9223372036854775807
def bytesOf (s : ByteArray) : List Int := s.data.toList.map fun b => (b.toNat : Int)
def ImAt (E : En) (esc : Bool) (b o : Nat) (us : List Value) : Prop := ∃ c, E.im (some esc) b = some c ∧ (c.toList.drop o).take us.length = us
def SKR (E : En) : (s : SK) → s.T → List Value → Prop
  | .int k, n, us => us = [.int k n] ∧ inK k n
  | .bool, b, us => us = [.bool b]
  | .str, l, us => ∃ s, us = [.string s] ∧ l = bytesOf s ∧ l.length ≤ ML
  | .lst k, l, us => (∀ x ∈ l, inK k x) ∧ l.length ≤ ML ∧ ∃ base cap, us = [.slice base l.length cap] ∧ l.length ≤ cap ∧
      (l = [] ∨ ∃ b o, base = some ⟨b, o, none⟩ ∧ ImAt E true b o (l.map (Value.int k)))
  | .arr k n, l, us => us = l.map (Value.int k) ∧ l.length = n ∧ ∀ x ∈ l, inK k x
def RTR (E : En) : (ss : List SK) → RT ss → List Value → Prop
  | [], _, us => us = []
  | [s], x, us => SKR E s x us
  | s :: t :: r, x, us => ∃ a b, us = a ++ b ∧ SKR E s x.1 a ∧ RTR E (t :: r) x.2 b
def EKR (E : En) : (e : EK) → e.T → List Value → Prop
  | .one s, x, us => SKR E s x us
  | .many ss, x, us => RTR E ss x us
def EKL (E : En) (e : EK) : List e.T → List Value → Prop
  | [], us => us = []
  | x :: l, us => ∃ a b, us = a ++ b ∧ EKR E e x a ∧ EKL E e l b
def fnV (f : Nat) (cs : Array Value) : Value :=
  if f = YG then (match cs.toList with
    | [.pointer (some a)] => .func (.yield a.block) #[] #[]
    | _ => .func (.func f) #[] cs) else .func (.func f) #[] cs
theorem fnV_of {f : Nat} {cs : Array Value} (h : Nat.beq f YG = false) : fnV f cs = .func (.func f) #[] cs := if_neg fun e => by rw [e, Nat.beq_refl] at h; cases h
theorem fnV_nil (f : Nat) : fnV f #[] = .func (.func f) #[] #[] := by unfold fnV; split <;> rfl
theorem fnV_func (f : Nat) (cs : Array Value) : ∃ g x, fnV f cs = .func g #[] x := by
  unfold fnV; split
  · split <;> exact ⟨_, _, rfl⟩
  · exact ⟨_, _, rfl⟩
theorem fnV_one (f : Nat) (cs : Array Value) : oneC (fnV f cs) = true := by obtain ⟨g, x, e⟩ := fnV_func f cs; rw [e]; rfl
mutual
def RC (E : En) (H : Nat → Option JObj) : JV → List Value → Prop
  | .int k n, us => us = [.int k n] ∧ inK k n
  | .bool b, us => us = [.bool b]
  | .str l, us => ∃ s, us = [.string s] ∧ l = bytesOf s ∧ l.length ≤ ML
  | .nilp, us => us = [.pointer none]
  | .nils, us => us = [.slice none 0 0]
  | .nilf, us => us = [.nilFunc]
  | .ptr id off, us => id < E.nx ∧ ∃ v, us = [v] ∧ oneC v = true ∧ (shp (H id) = .box → v = .pointer (some ⟨(E.φ id).blk, (E.φ id).off + off, none⟩))
  | .pdyn id off i, us => id < E.nx ∧ ∃ v, us = [v] ∧ oneC v = true ∧ (shp (H id) = .box → v = .pointer (some ⟨(E.φ id).blk, (E.φ id).off + off + i, none⟩))
  | .pel id i c, us => id < E.nx ∧ ∃ v, us = [v] ∧ oneC v = true ∧ ∀ e n, shp (H id) = .row e n → v = .pointer (some ⟨(E.φ id).blk, (E.φ id).off + i * e.w + c, none⟩)
  | .full id, us => id < E.nx ∧ ∃ v, us = [v] ∧ oneC v = true ∧ ∀ e n, shp (H id) = .row e n → SlOK (E.φ id) e.w 0 n n v
  | .sl id off len, us => id < E.nx ∧ ∃ v, us = [v] ∧ oneC v = true ∧ (∀ e n, shp (H id) = .row e n → off + len ≤ n ∧ SlOK (E.φ id) e.w off len n v) ∧ (shp (H id) = .box → len ≤ ML ∧ ∃ cap, len ≤ cap ∧ v = .slice (some ⟨(E.φ id).blk, (E.φ id).off + off, none⟩) len cap)
  | .lst esc e l, us => l.length ≤ ML ∧ ∃ base cap, us = [.slice base l.length cap] ∧ l.length ≤ cap ∧
      ∃ vs, EKL E e l vs ∧ (l = [] ∨ ∃ b o, base = some ⟨b, o, none⟩ ∧ ImAt E esc b o vs)
  | .pim esc cs, us => ∃ b o vs, us = [.pointer (some ⟨b, o, none⟩)] ∧ RCs E H cs vs ∧ ImAt E esc b o vs
  | .fn f caps, us => ∃ cs, us = [fnV f cs] ∧ RVl E H caps cs.toList
  | .arr k n l, us => us = l.map (Value.int k) ∧ l.length = n ∧ ∀ x ∈ l, inK k x
  | .agg _, _ => False
  | .tup _, _ => False
  | .junk, us => ∃ v, us = [v] ∧ oneC v = true
def RCs (E : En) (H : Nat → Option JObj) : List JV → List Value → Prop
  | [], us => us = []
  | c :: r, us => ∃ a b, us = a ++ b ∧ RC E H c a ∧ RCs E H r b
def RVl (E : En) (H : Nat → Option JObj) : List JV → List Value → Prop
  | [], us => us = []
  | c :: r, us => ∃ v b, us = v :: b ∧ c.flat = true ∧ RC E H c [v] ∧ RVl E H r b
end
def RV1 (E : En) (H : Nat → Option JObj) (v : JV) (x : Value) : Prop :=
  match v with
  | .junk => True
  | .agg cs => ∃ vs, x = .agg vs ∧ RCs E H cs vs.toList
  | .arr k n l => ∃ vs, x = .agg vs ∧ RC E H (.arr k n l) vs.toList
  | v => RC E H v [x]
def RV1l (E : En) (H : Nat → Option JObj) : List JV → List Value → Prop
  | [], us => us = []
  | c :: r, us => ∃ v b, us = v :: b ∧ RV1 E H c v ∧ RV1l E H r b
def RV (E : En) (H : Nat → Option JObj) (v : JV) (x : Value) : Prop :=
  match v with
  | .tup vs => ∃ xs, x = .tuple xs ∧ RV1l E H vs xs.toList
  | v => RV1 E H v x
def RVL (E : En) (H : Nat → Option JObj) : List JV → List Value → Prop
  | [], us => us = []
  | c :: r, us => ∃ v b, us = v :: b ∧ RV E H c v ∧ RVL E H r b
theorem SKR_len {E : En} {s : SK} {x : s.T} {us : List Value} (h : SKR E s x us) : us.length = s.w := by
  cases s <;> simp only [SKR] at h
  · obtain ⟨rfl, _⟩ := h; rfl
  · subst h; rfl
  · obtain ⟨s, rfl, _⟩ := h; rfl
  · obtain ⟨_, _, b, c, rfl, _⟩ := h; rfl
  · obtain ⟨rfl, h, _⟩ := h; simpa [SK.w] using h
theorem RTR_len {E : En} : ∀ {ss : List SK} {x : RT ss} {us : List Value}, RTR E ss x us → us.length = sksW ss
  | [], _, us, h => by simp only [RTR] at h; subst h; rfl
  | [s], x, us, h => by simp only [RTR] at h; simpa [sksW] using SKR_len h
  | s :: t :: r, x, us, h => by
    obtain ⟨a, b, rfl, ha, hb⟩ := h
    rw [List.length_append, SKR_len ha, RTR_len hb]; rfl
theorem EKR_len {E : En} {e : EK} {x : e.T} {us : List Value} (h : EKR E e x us) : us.length = e.w := by
  cases e with
  | one s => exact SKR_len h
  | many ss => exact RTR_len h
theorem EKL_len {E : En} {e : EK} : ∀ {l : List e.T} {us : List Value}, EKL E e l us → us.length = l.length * e.w
  | [], us, h => by simp only [EKL] at h; subst h; simp
  | x :: l, us, h => by
    obtain ⟨a, b, rfl, ha, hb⟩ := h
    rw [List.length_append, EKR_len ha, EKL_len hb, List.length_cons, Nat.succ_mul, Nat.add_comm]
theorem RC_len {E : En} {H : Nat → Option JObj} {c : JV} {us : List Value} (h : RC E H c us) : us.length = c.wid := by
  cases c <;> simp only [RC] at h <;> simp only [JV.wid]
  all_goals first
    | (obtain ⟨rfl, _⟩ := h; rfl)
    | (obtain ⟨v, rfl, _⟩ := h; rfl)
    | (obtain ⟨_, v, rfl, _⟩ := h; rfl)
    | (obtain ⟨b, c, rfl, _⟩ := h; rfl)
    | (obtain ⟨b, c, d, rfl, _⟩ := h; rfl)
    | (obtain ⟨_, b, c, rfl, _⟩ := h; rfl)
    | (subst h; rfl)
    | (obtain ⟨rfl, h, _⟩ := h; simpa using h)
    | exact h.elim
theorem RCs_len {E : En} {H : Nat → Option JObj} : ∀ {cs : List JV} {us : List Value}, RCs E H cs us → us.length = wids cs
  | [], us, h => by simp only [RCs] at h; subst h; rfl
  | c :: r, us, h => by
    simp only [RCs] at h
    obtain ⟨a, b, rfl, ha, hb⟩ := h
    rw [List.length_append, RC_len ha, RCs_len hb]; rfl
theorem wids_append (a b : List JV) : wids (a ++ b) = wids a + wids b := by
  induction a with
  | nil => simp [wids]
  | cons c r ih => simp only [List.cons_append, wids, ih]; omega
theorem RCs_append {E : En} {H : Nat → Option JObj} : ∀ {cs ds : List JV} {us vs : List Value}, RCs E H cs us → RCs E H ds vs → RCs E H (cs ++ ds) (us ++ vs)
  | [], ds, us, vs, h, h' => by simp only [RCs] at h; subst h; simpa using h'
  | c :: r, ds, us, vs, h, h' => by
    simp only [RCs] at h
    obtain ⟨a, b, rfl, ha, hb⟩ := h
    exact ⟨a, b ++ vs, by simp, ha, RCs_append hb h'⟩
theorem dropAt_ok {E : En} {H : Nat → Option JObj} : ∀ {cs cs' : List JV} {off : Nat} {us : List Value}, dropAt cs off = some cs' → RCs E H cs us → RCs E H cs' (us.drop off) ∧ off ≤ us.length
  | cs, cs', 0, us, h, hr => by
    simp only [dropAt] at h; cases h; exact ⟨by simpa using hr, Nat.zero_le _⟩
  | [], cs', off + 1, us, h, hr => by simp [dropAt] at h
  | c :: r, cs', off + 1, us, h, hr => by
    simp only [dropAt] at h
    obtain ⟨a, b, rfl, ha, hb⟩ := hr
    have hl := RC_len ha
    cases hc : Nat.ble c.wid (off + 1) with
    | false => rw [hc] at h; simp at h
    | true =>
      rw [hc] at h
      have hle : c.wid ≤ off + 1 := Nat.le_of_ble_eq_true hc
      obtain ⟨h1, h2⟩ := dropAt_ok h hb
      refine ⟨?_, by rw [List.length_append]; omega⟩
      rw [List.drop_append, List.drop_eq_nil_of_le (by omega), List.nil_append, hl]; exact h1
theorem takeAt_ok {E : En} {H : Nat → Option JObj} : ∀ {cs cs' : List JV} {w : Nat} {us : List Value}, takeAt cs w = some cs' → RCs E H cs us → RCs E H cs' (us.take w) ∧ w ≤ us.length
  | cs, cs', 0, us, h, hr => by
    simp only [takeAt] at h; cases h; exact ⟨by simp [RCs], Nat.zero_le _⟩
  | [], cs', w + 1, us, h, hr => by simp [takeAt] at h
  | c :: r, cs', w + 1, us, h, hr => by
    simp only [takeAt] at h
    obtain ⟨a, b, rfl, ha, hb⟩ := hr
    have hl := RC_len ha
    cases hc : Nat.ble c.wid (w + 1) with
    | false => rw [hc] at h; simp at h
    | true =>
      rw [hc] at h
      have hle : c.wid ≤ w + 1 := Nat.le_of_ble_eq_true hc
      cases ht : takeAt r (w + 1 - c.wid) with
      | none => rw [ht] at h; simp at h
      | some l =>
        rw [ht] at h; simp only [cond_true, Option.some.injEq] at h; subst h
        obtain ⟨h1, h2⟩ := takeAt_ok ht hb
        refine ⟨?_, by rw [List.length_append]; omega⟩
        rw [List.take_append, List.take_of_length_le (by omega), hl]
        exact ⟨a, _, rfl, ha, h1⟩
theorem getAt_ok {E : En} {H : Nat → Option JObj} : ∀ {cs : List JV} {c : JV} {off : Nat} {us : List Value}, getAt cs off = some c → RCs E H cs us → RC E H c ((us.drop off).take c.wid) ∧ off + c.wid ≤ us.length
  | [], c, off, us, h, hr => by simp [getAt] at h
  | d :: r, c, off, us, h, hr => by
    simp only [getAt] at h
    obtain ⟨a, b, rfl, ha, hb⟩ := hr
    have hl := RC_len ha
    cases h0 : Nat.beq off 0 with
    | true =>
      rw [h0] at h; simp only [cond_true, Option.some.injEq] at h; subst h
      have : off = 0 := Nat.eq_of_beq_eq_true h0
      subst this
      rw [List.drop_zero, List.take_append, List.take_of_length_le (by omega), ← hl, Nat.sub_self, List.take_zero, List.append_nil]
      exact ⟨ha, by rw [List.length_append]; omega⟩
    | false =>
      rw [h0] at h; simp only [cond_false] at h
      cases hc : Nat.ble d.wid off with
      | false => rw [hc] at h; simp at h
      | true =>
        rw [hc] at h; simp only [cond_true] at h
        have hle : d.wid ≤ off := Nat.le_of_ble_eq_true hc
        obtain ⟨h1, h2⟩ := getAt_ok h hb
        rw [List.drop_append, List.drop_eq_nil_of_le (by omega), List.nil_append, hl]
        exact ⟨h1, by rw [List.length_append]; omega⟩
def splice (us : List Value) (off : Nat) (vs : List Value) : List Value := us.take off ++ (vs ++ us.drop (off + vs.length))
theorem splice_len {us vs : List Value} {off : Nat} (h : off + vs.length ≤ us.length) : (splice us off vs).length = us.length := by
  simp [splice]; omega
theorem map_set_int (k : IntKind) (l : List Int) (i : Nat) (x : Int) : (l.set i x).map (Value.int k) = (l.map (Value.int k)).set i (.int k x) := by
  rw [List.map_set]
theorem set_splice {us : List Value} {i : Nat} {x : Value} (h : i < us.length) : us.set i x = splice us i [x] := by
  rw [splice, List.set_eq_take_append_cons_drop, if_pos h]; simp
theorem splice_right {a b vs : List Value} {off : Nat} (h : a.length ≤ off) : splice (a ++ b) off vs = a ++ splice b (off - a.length) vs := by
  simp only [splice]
  rw [List.take_append, List.take_of_length_le h, List.append_assoc, List.drop_append, List.drop_eq_nil_of_le (by omega), List.nil_append]
  congr 3
  congr 1; omega
theorem splice_left {a b vs : List Value} {off : Nat} (h : off + vs.length ≤ a.length) : splice (a ++ b) off vs = splice a off vs ++ b := by
  simp only [splice]
  rw [List.take_append, List.drop_append, show off - a.length = 0 from by omega, show off + vs.length - a.length = 0 from by omega]
  simp
theorem mem_set_inK {k : IntKind} {l : List Int} {i : Nat} {x : Int} (h : ∀ y ∈ l, inK k y) (hx : inK k x) : ∀ y ∈ l.set i x, inK k y := by
  intro y hy
  rcases List.mem_or_eq_of_mem_set hy with h' | rfl
  · exact h y h'
  · exact hx
theorem setAt_ok {E : En} {H : Nat → Option JObj} : ∀ {cs cs' : List JV} {v : JV} {off : Nat} {us vs : List Value}, setAt cs off v = some cs' → RCs E H cs us → RC E H v vs →
    RCs E H cs' (splice us off vs) ∧ off + vs.length ≤ us.length
  | [], cs', v, off, us, vs, h, hr, hv => by simp [setAt] at h
  | c :: r, cs', v, off, us, vs, h, hr, hv => by
    simp only [setAt] at h
    obtain ⟨a, b, rfl, ha, hb⟩ := hr
    have hl := RC_len ha
    have hlv := RC_len hv
    cases h0 : Nat.beq off 0 with
    | true =>
      have e0 : off = 0 := Nat.eq_of_beq_eq_true h0
      subst e0
      rw [h0] at h; simp only [cond_true] at h
      split at h
      · rename_i k n l k' x
        split at h
        · rename_i hk
          obtain ⟨rfl, hn⟩ := hk
          simp only [Option.some.injEq] at h; subst h
          simp only [RC] at ha hv
          obtain ⟨rfl, hln, hin⟩ := ha
          obtain ⟨rfl, hx⟩ := hv
          have : 0 < l.length := by omega
          rw [splice_left (by simp; omega), ← set_splice (by simpa using this)]
          exact ⟨⟨_, b, rfl, ⟨by rw [map_set_int], by simpa using hln, mem_set_inK hin hx⟩, hb⟩, by simp; omega⟩
        · cases h
      · rename_i c' v' hne
        cases hw : Nat.beq c.wid v.wid with
        | false => rw [hw] at h; simp at h
        | true =>
          rw [hw] at h; simp only [cond_true, Option.some.injEq] at h; subst h
          have hw' : c.wid = v.wid := Nat.eq_of_beq_eq_true hw
          refine ⟨⟨vs, b, ?_, hv, hb⟩, by rw [List.length_append]; omega⟩
          simp [splice, show vs.length = a.length from by omega]
    | false =>
      have hpos : off ≠ 0 := fun e => by subst e; simp at h0
      rw [h0] at h; simp only [cond_false] at h
      cases hc : Nat.ble c.wid off with
      | true =>
        rw [hc] at h; simp only [cond_true] at h
        have hle : c.wid ≤ off := Nat.le_of_ble_eq_true hc
        cases ht : setAt r (off - c.wid) v with
        | none => rw [ht] at h; simp at h
        | some l =>
          rw [ht] at h; simp only [Option.some.injEq] at h; subst h
          obtain ⟨h1, h2⟩ := setAt_ok ht hb hv
          rw [splice_right (by omega), hl]
          exact ⟨⟨a, _, rfl, ha, h1⟩, by rw [List.length_append]; omega⟩
      | false =>
        rw [hc] at h; simp only [cond_false] at h
        split at h
        · rename_i k n l k' x
          split at h
          · rename_i hk
            obtain ⟨rfl, hn⟩ := hk
            simp only [Option.some.injEq] at h; subst h
            simp only [RC] at ha hv
            obtain ⟨rfl, hln, hin⟩ := ha
            obtain ⟨rfl, hx⟩ := hv
            have : off < l.length := by omega
            rw [splice_left (by simp; omega), ← set_splice (by simpa using this)]
            exact ⟨⟨_, b, rfl, ⟨by rw [map_set_int], by simpa using hln, mem_set_inK hin hx⟩, hb⟩, by simp; omega⟩
          · cases h
        · cases h
theorem splice_splice {us vs ws : List Value} {off : Nat} (h : off + vs.length + ws.length ≤ us.length) : splice (splice us off vs) (off + vs.length) ws = splice us off (vs ++ ws) := by
  have h1 : (us.take off).length = off := by rw [List.length_take]; omega
  simp only [splice]
  rw [List.take_append, List.take_of_length_le (by omega), h1, List.take_append, show off + vs.length - off = vs.length from by omega, List.take_of_length_le (Nat.le_refl _), Nat.sub_self, List.take_zero, List.append_nil,
    List.drop_append, List.drop_eq_nil_of_le (by omega), List.nil_append, h1, List.drop_append, List.drop_eq_nil_of_le (by omega), List.nil_append, List.drop_drop, List.length_append]
  simp only [List.append_assoc]
  congr 4
  omega
theorem putAt_ok {E : En} {H : Nat → Option JObj} : ∀ {ds cs cs' : List JV} {off : Nat} {us vs : List Value}, putAt cs off ds = some cs' → RCs E H cs us → RCs E H ds vs → off ≤ us.length →
    RCs E H cs' (splice us off vs) ∧ off + vs.length ≤ us.length
  | [], cs, cs', off, us, vs, h, hr, hv, ho => by
    simp only [putAt, Option.some.injEq] at h; subst h
    simp only [RCs] at hv; subst hv
    exact ⟨by simpa [splice] using hr, by simpa using ho⟩
  | v :: r, cs, cs', off, us, vs, h, hr, hv, ho => by
    simp only [putAt] at h
    obtain ⟨a, b, rfl, ha, hb⟩ := hv
    cases hs : setAt cs off v with
    | none => rw [hs] at h; cases h
    | some cs1 =>
      rw [hs] at h; simp only at h
      obtain ⟨h1, h2⟩ := setAt_ok hs hr ha
      have hl := RC_len ha
      have hlen := splice_len h2
      rw [← hl] at h
      obtain ⟨h3, h4⟩ := putAt_ok h h1 hb (by omega)
      rw [splice_splice (by omega)] at h3
      exact ⟨h3, by rw [List.length_append]; omega⟩
end Go.Eng

namespace Go.Eng
theorem shp_ren (f : Nat → Option Nat) (o : JObj) : shp (some (o.ren f)) = shp (some o) := by cases o <;> rfl
theorem flat_ren {f : Nat → Option Nat} {v : JV} (h : v.flat = true) : (v.ren f).flat = true := by
  cases v <;> simp only [JV.ren] <;> first | exact h | rfl | (split <;> rfl) | (simp [JV.flat] at h)
structure Goes (f : Nat → Option Nat) (E : En) (H : Nat → Option JObj) (E' : En) (H' : Nat → Option JObj) : Prop where
  at_ : ∀ id i, id < E.nx → f id = some i → i < E'.nx ∧ E'.φ i = E.φ id ∧ (shp (H' i) = .none ∨ shp (H' i) = shp (H id))
  im : ∀ esc b c, E.im esc b = some c → E'.im esc b = some c
theorem ImAt.mono {E E' : En} (h : ∀ esc b c, E.im esc b = some c → E'.im esc b = some c) {esc : Bool} {b o : Nat} {us : List Value} (k : ImAt E esc b o us) : ImAt E' esc b o us := by
  obtain ⟨c, hc, hu⟩ := k; exact ⟨c, h _ _ _ hc, hu⟩
theorem SKR.mono {E E' : En} (h : ∀ esc b c, E.im esc b = some c → E'.im esc b = some c) {s : SK} {x : s.T} {us : List Value} (k : SKR E s x us) : SKR E' s x us := by
  cases s <;> simp only [SKR] at k ⊢
  · exact k
  · exact k
  · exact k
  · obtain ⟨hi, hml, base, cap, hu, hc, hor⟩ := k
    refine ⟨hi, hml, base, cap, hu, hc, hor.imp id ?_⟩
    rintro ⟨b, o, hb, him⟩
    exact ⟨b, o, hb, him.mono h⟩
  · exact k
theorem RTR.mono {E E' : En} (h : ∀ esc b c, E.im esc b = some c → E'.im esc b = some c) : ∀ {ss : List SK} {x : RT ss} {us : List Value}, RTR E ss x us → RTR E' ss x us
  | [], _, _, k => k
  | [s], _, _, k => SKR.mono h k
  | s :: t :: r, _, _, ⟨a, b, e, ha, hb⟩ => ⟨a, b, e, ha.mono h, RTR.mono h hb⟩
theorem EKR.mono {E E' : En} (h : ∀ esc b c, E.im esc b = some c → E'.im esc b = some c) {e : EK} {x : e.T} {us : List Value} (k : EKR E e x us) : EKR E' e x us := by
  cases e with
  | one s => exact SKR.mono h k
  | many ss => exact RTR.mono h k
theorem EKL.mono {E E' : En} (h : ∀ esc b c, E.im esc b = some c → E'.im esc b = some c) {e : EK} : ∀ {l : List e.T} {us : List Value}, EKL E e l us → EKL E' e l us
  | [], _, k => k
  | _ :: _, _, ⟨a, b, e, ha, hb⟩ => ⟨a, b, e, ha.mono h, EKL.mono h hb⟩
mutual
theorem RC_ren {f : Nat → Option Nat} {E E' : En} {H H' : Nat → Option JObj} (G : Goes f E H E' H') : ∀ (v : JV) (us : List Value), RC E H v us → RC E' H' (v.ren f) us
  | .int k n, us, h => h
  | .bool b, us, h => h
  | .str l, us, h => h
  | .nilp, us, h => h
  | .nils, us, h => h
  | .nilf, us, h => h
  | .ptr id off, us, h => by
    simp only [RC] at h; obtain ⟨hn, v, rfl, hv, hp⟩ := h
    simp only [JV.ren]
    cases hf : f id with
    | none => exact ⟨v, rfl, hv⟩
    | some i =>
      obtain ⟨h0, h1, h2⟩ := G.at_ id i hn hf
      refine ⟨h0, v, rfl, hv, fun hs => ?_⟩
      rw [h1]; exact hp (by rcases h2 with h2 | h2 <;> simp_all)
  | .pdyn id off d, us, h => by
    simp only [RC] at h; obtain ⟨hn, v, rfl, hv, hp⟩ := h
    simp only [JV.ren]
    cases hf : f id with
    | none => exact ⟨v, rfl, hv⟩
    | some i =>
      obtain ⟨h0, h1, h2⟩ := G.at_ id i hn hf
      refine ⟨h0, v, rfl, hv, fun hs => ?_⟩
      rw [h1]; exact hp (by rcases h2 with h2 | h2 <;> simp_all)
  | .pel id d c, us, h => by
    simp only [RC] at h; obtain ⟨hn, v, rfl, hv, hp⟩ := h
    simp only [JV.ren]
    cases hf : f id with
    | none => exact ⟨v, rfl, hv⟩
    | some i =>
      obtain ⟨h0, h1, h2⟩ := G.at_ id i hn hf
      refine ⟨h0, v, rfl, hv, fun e n hs => ?_⟩
      rw [h1]; exact hp e n (by rcases h2 with h2 | h2 <;> simp_all)
  | .full id, us, h => by
    simp only [RC] at h; obtain ⟨hn, v, rfl, hv, hp⟩ := h
    simp only [JV.ren]
    cases hf : f id with
    | none => exact ⟨v, rfl, hv⟩
    | some i =>
      obtain ⟨h0, h1, h2⟩ := G.at_ id i hn hf
      refine ⟨h0, v, rfl, hv, fun e n hs => ?_⟩
      rw [h1]; exact hp e n (by rcases h2 with h2 | h2 <;> simp_all)
  | .sl id off len, us, h => by
    simp only [RC] at h; obtain ⟨hn, v, rfl, hv, hp⟩ := h
    simp only [JV.ren]
    cases hf : f id with
    | none => exact ⟨v, rfl, hv⟩
    | some i =>
      obtain ⟨h0, h1, h2⟩ := G.at_ id i hn hf
      refine ⟨h0, v, rfl, hv, fun e n hs => ?_, fun hs => ?_⟩
      · rw [h1]; exact hp.1 e n (by rcases h2 with h2 | h2 <;> simp_all)
      · rw [h1]; exact hp.2 (by rcases h2 with h2 | h2 <;> simp_all)
  | .lst esc e l, us, h => by
    simp only [JV.ren, RC] at h ⊢
    obtain ⟨hml, base, cap, hu, hc, vs, hk, hor⟩ := h
    refine ⟨hml, base, cap, hu, hc, vs, hk.mono G.im, hor.imp id ?_⟩
    rintro ⟨b, o, hb, him⟩
    exact ⟨b, o, hb, him.mono G.im⟩
  | .pim esc cs, us, h => by
    simp only [JV.ren, RC] at h ⊢
    obtain ⟨b, o, vs, hu, hr, him⟩ := h
    exact ⟨b, o, vs, hu, RCs_ren G cs vs hr, him.mono G.im⟩
  | .fn g caps, us, h => by
    simp only [JV.ren, RC] at h ⊢
    obtain ⟨cs, hu, hr⟩ := h
    exact ⟨cs, hu, RVl_ren G caps _ hr⟩
  | .arr k n l, us, h => h
  | .agg cs, us, h => by simp only [RC] at h
  | .tup cs, us, h => by simp only [RC] at h
  | .junk, us, h => h
theorem RCs_ren {f : Nat → Option Nat} {E E' : En} {H H' : Nat → Option JObj} (G : Goes f E H E' H') : ∀ (cs : List JV) (us : List Value), RCs E H cs us → RCs E' H' (renL f cs) us
  | [], us, h => h
  | c :: r, us, h => by
    simp only [RCs, renL] at h ⊢
    obtain ⟨a, b, hu, ha, hb⟩ := h
    exact ⟨a, b, hu, RC_ren G c a ha, RCs_ren G r b hb⟩
theorem RVl_ren {f : Nat → Option Nat} {E E' : En} {H H' : Nat → Option JObj} (G : Goes f E H E' H') : ∀ (cs : List JV) (us : List Value), RVl E H cs us → RVl E' H' (renL f cs) us
  | [], us, h => h
  | c :: r, us, h => by
    simp only [RVl, renL] at h ⊢
    obtain ⟨a, b, hu, hf, ha, hb⟩ := h
    exact ⟨a, b, hu, flat_ren hf, RC_ren G c [a] ha, RVl_ren G r b hb⟩
end
theorem RV1_ren {f : Nat → Option Nat} {E E' : En} {H H' : Nat → Option JObj} (G : Goes f E H E' H') {v : JV} {x : Value} (h : RV1 E H v x) : RV1 E' H' (v.ren f) x := by
  cases v
  case junk => exact h
  case agg cs =>
    simp only [RV1, JV.ren] at h ⊢
    obtain ⟨vs, e, hr⟩ := h
    exact ⟨vs, e, RCs_ren G _ _ hr⟩
  case arr k n l => exact h
  case tup vs => simp only [RV1, RC] at h
  case ptr id off =>
    have h' := RC_ren G _ _ (show RC E H (.ptr id off) [x] from h)
    simp only [JV.ren] at h' ⊢; split <;> rename_i i hi <;> simp only [hi] at h' <;> first | exact h' | trivial
  case pdyn id off d =>
    have h' := RC_ren G _ _ (show RC E H (.pdyn id off d) [x] from h)
    simp only [JV.ren] at h' ⊢; split <;> rename_i i hi <;> simp only [hi] at h' <;> first | exact h' | trivial
  case pel id off d =>
    have h' := RC_ren G _ _ (show RC E H (.pel id off d) [x] from h)
    simp only [JV.ren] at h' ⊢; split <;> rename_i i hi <;> simp only [hi] at h' <;> first | exact h' | trivial
  case full id =>
    have h' := RC_ren G _ _ (show RC E H (.full id) [x] from h)
    simp only [JV.ren] at h' ⊢; split <;> rename_i i hi <;> simp only [hi] at h' <;> first | exact h' | trivial
  case sl id off len =>
    have h' := RC_ren G _ _ (show RC E H (.sl id off len) [x] from h)
    simp only [JV.ren] at h' ⊢; split <;> rename_i i hi <;> simp only [hi] at h' <;> first | exact h' | trivial
  all_goals exact RC_ren G _ _ h
theorem RV1l_ren {f : Nat → Option Nat} {E E' : En} {H H' : Nat → Option JObj} (G : Goes f E H E' H') : ∀ {vs : List JV} {xs : List Value}, RV1l E H vs xs → RV1l E' H' (renL f vs) xs
  | [], _, h => h
  | _ :: _, _, ⟨v, b, e, h1, h2⟩ => ⟨v, b, e, RV1_ren G h1, RV1l_ren G h2⟩
theorem RV_tup {E : En} {H : Nat → Option JObj} {v : JV} {x : Value} (hv : ∀ vs, v ≠ .tup vs) : RV E H v x = RV1 E H v x := by
  cases v <;> first | rfl | exact (hv _ rfl).elim
theorem ren_tup {f : Nat → Option Nat} {v : JV} (hv : ∀ vs, v ≠ .tup vs) : ∀ vs, v.ren f ≠ .tup vs := by
  intro vs; cases v <;> simp only [JV.ren] <;> first | exact (hv _ rfl).elim | (split <;> simp) | simp
theorem RV_ren {f : Nat → Option Nat} {E E' : En} {H H' : Nat → Option JObj} (G : Goes f E H E' H') {v : JV} {x : Value} (h : RV E H v x) : RV E' H' (v.ren f) x := by
  by_cases ht : ∃ vs, v = .tup vs
  · obtain ⟨vs, rfl⟩ := ht
    simp only [RV, JV.ren] at h ⊢
    obtain ⟨xs, e, hr⟩ := h
    exact ⟨xs, e, RV1l_ren G hr⟩
  · have hv : ∀ vs, v ≠ .tup vs := fun vs e => ht ⟨vs, e⟩
    rw [RV_tup hv] at h
    rw [RV_tup (ren_tup hv)]
    exact RV1_ren G h
mutual
theorem ren_some : ∀ v : JV, v.ren some = v
  | .int _ _ | .bool _ | .str _ | .nilp | .nils | .nilf | .ptr _ _ | .pdyn _ _ _ | .pel _ _ _ | .full _ | .sl _ _ _ | .lst _ _ _ | .arr _ _ _ | .junk => rfl
  | .pim esc cs => by simp only [JV.ren, renL_some cs]
  | .fn _ cs => by simp only [JV.ren, renL_some cs]
  | .agg cs => by simp only [JV.ren, renL_some cs]
  | .tup cs => by simp only [JV.ren, renL_some cs]
theorem renL_some : ∀ vs : List JV, renL some vs = vs
  | [] => rfl
  | v :: r => by simp only [renL, ren_some v, renL_some r]
end
def Blk (w : World) (E : En) (p : Place) (rw : Bool) (us : List Value) : Prop :=
  if rw then ∃ c t lo hi, w.heap[p.blk]? = some (.cells c t (lo, hi)) ∧ (hi ≤ lo ∨ c.size ≤ lo) ∧ c.size = p.off + p.room ∧ us.length ≤ p.room ∧ (c.toList.drop p.off).take us.length = us
  else us.length ≤ p.room ∧ ∃ c, E.im none p.blk = some c ∧ (c.toList.drop p.off).take us.length = us
def ObjOK (w : World) (E : En) (H : Nat → Option JObj) (id : Nat) : JObj → Prop
  | .box cs rw => ∃ us, RCs E H cs us ∧ (us = [] ∧ (E.φ id).room = 0 ∨ Blk w E (E.φ id) rw us)
  | .row e l rw => ∃ us, (EKL E e l us ∧ l.length ≤ ML) ∧ (us = [] ∧ (E.φ id).room = 0 ∨ Blk w E (E.φ id) rw us)
structure Sc where
  own : Nat → Prop
  m : Nat
  φ0 : Nat → Place
  im0 : Bool → Nat → Option (Array Value)
  sh0 : Nat → Shape
instance : CoeFun Sc (fun _ => Nat → Prop) := ⟨Sc.own⟩
structure Keeps (S : Sc) (w0 w : World) : Prop where
  os : w.os = w0.os
  tape : w.tape = w0.tape
  output : w.output = w0.output
  size : w0.heap.size ≤ w.heap.size
  block : ∀ k, k < w0.heap.size → ¬ S k → w.heap[k]? = w0.heap[k]?
structure RepH (S : Sc) (w0 : World) (E : En) (H : Nat → Option JObj) (nx : Nat) (w : World) : Prop where
  keeps : Keeps S w0 w
  obj : ∀ id o, H id = some o → ObjOK w E H id o
  own : ∀ id o, H id = some o → o.rw = true → 0 < (E.φ id).room → (S (E.φ id).blk ∨ w0.heap.size ≤ (E.φ id).blk) ∧ ∀ esc, E.im esc (E.φ id).blk = none
  apart : ∀ i j a b, H i = some a → H j = some b → a.rw = true → b.rw = true → 0 < (E.φ i).room → 0 < (E.φ j).room → (E.φ i).blk = (E.φ j).blk → i = j
  imOK : ∀ esc b c, E.im esc b = some c → ∃ t fz, w.heap[b]? = some (.cells c t fz)
  imS : ∀ esc b c, E.im esc b = some c → (b < w0.heap.size ∧ ¬ S b) ∨ w0.heap.size ≤ b
  imSub : ∀ b c, E.im (some true) b = some c → E.im (some false) b = some c
  fresh : ∀ id, nx ≤ id → H id = none
  nx_ : E.nx = nx
  mle : S.m ≤ nx
  pin : ∀ i, i < S.m → E.φ i = S.φ0 i
  im0 : ∀ e b, b < w0.heap.size → E.im (some e) b = S.im0 e b
  shape : ∀ i, i < S.m → shp (H i) = .none ∨ shp (H i) = S.sh0 i
structure Rep (S : Sc) (w0 : World) (E : En) (st : St) (a : Act) (w : World) : Prop extends RepH S w0 E st.H st.nx w where
  env : ∀ i, RV E st.H (st.env i) (a.tmps.getD i undef)
  defers : a.defers = []
end Go.Eng

namespace Go.Eng
variable {P : Program} {S : Sc} {w0 w : World} {E : En} {H : Nat → Option JObj} {nx : Nat}
theorem addr_add (b o i : Nat) : (⟨b, o, none⟩ : Addr).add i = ⟨b, o + i, none⟩ := by
  unfold Addr.add; split
  · rename_i h; subst h; rfl
  · rfl
theorem cell_of {b o : Nat} {c : Array Value} {t : TypeId} {fz : Nat × Nat} (h : w.heap[b]? = some (.cells c t fz)) : w.cell? ⟨b, o, none⟩ = c[o]? := by
  simp [World.cell?, h]
theorem frozen_of {b o : Nat} {c : Array Value} {t : TypeId} {lo hi : Nat} (h : w.heap[b]? = some (.cells c t (lo, hi))) (hf : hi ≤ lo ∨ c.size ≤ lo) (ho : o < c.size) : w.frozen? ⟨b, o, none⟩ = false := by
  simp only [World.frozen?, h]
  rcases hf with hf | hf <;> simp <;> omega
def setBlk (w : World) (b : Nat) (o : Obj) : World := { w with heap := w.heap.setIfInBounds b o }
theorem setBlk_get (b : Nat) (o : Obj) (hb : b < w.heap.size) (k : Nat) : (setBlk w b o).heap[k]? = if k = b then some o else w.heap[k]? := by
  unfold setBlk
  by_cases h : k = b
  · subst h; rw [if_pos rfl]; simp [hb]
  · rw [if_neg h]; simp [Ne.symm h]
theorem setBlk_size (b : Nat) (o : Obj) : (setBlk w b o).heap.size = w.heap.size := by simp [setBlk]
theorem lt_of_get {b : Nat} {o : Obj} (h : w.heap[b]? = some o) : b < w.heap.size := by
  rcases Nat.lt_or_ge b w.heap.size with h' | h'
  · exact h'
  · rw [Array.getElem?_eq_none h'] at h; cases h
theorem setCell_blk {b o : Nat} {v : Value} {c : Array Value} {t : TypeId} {fz : Nat × Nat} (h : w.heap[b]? = some (.cells c t fz)) :
    w.setCell ⟨b, o, none⟩ v = setBlk w b (.cells (c.setIfInBounds o v) t fz) := by
  have hb := lt_of_get h
  unfold World.setCell setBlk
  congr 1
  apply Array.ext_getElem?
  intro i
  rw [Array.getElem?_modify, Array.getElem?_setIfInBounds]
  split
  · rename_i e; subst e; simp [h]
  · rfl
theorem setBlk_setBlk (b : Nat) (o o' : Obj) : setBlk (setBlk w b o) b o' = setBlk w b o' := by
  unfold setBlk; simp
def spliceA (c : Array Value) (off : Nat) (vs : List Value) : Array Value := (splice c.toList off vs).toArray
theorem setBlk_self {b : Nat} {o : Obj} (h : w.heap[b]? = some o) : setBlk w b o = w := by
  unfold setBlk
  have hb := lt_of_get h
  have : w.heap.setIfInBounds b o = w.heap := by
    apply Array.ext_getElem?
    intro k
    rw [Array.getElem?_setIfInBounds]
    split
    · rename_i e; subst e; rw [h]
    · rfl
  rw [this]
theorem store_run {b o : Nat} {t : TypeId} {lo hi : Nat} : ∀ (vs : List Value) (i : Nat) (w : World) (c : Array Value), w.heap[b]? = some (.cells c t (lo, hi)) → (hi ≤ lo ∨ c.size ≤ lo) →
    o + i + vs.length ≤ c.size → (∀ v ∈ vs, oneC v = true) → (storeCells ⟨b, o, none⟩ vs i).run P w = .ok () (setBlk w b (.cells (spliceA c (o + i) vs) t (lo, hi)))
  | [], i, w, c, h, hf, hl, hv => by
    have e : spliceA c (o + i) [] = c := by simp [spliceA, splice]
    rw [e, setBlk_self h]; rfl
  | v :: vs, i, w, c, h, hf, hl, hv => by
    simp only [List.length_cons] at hl
    unfold storeCells
    have hv0 := hv v (by simp)
    have hv' : v.oneCell' = true := by cases v <;> first | rfl | (simp [oneC] at hv0)
    rw [Sem.run_bind, addr_add, run_store _ _ _ _ _ hv', cell_of h, Array.getElem?_eq_getElem (by omega)]
    simp only
    rw [frozen_of h hf (by omega)]
    simp only [Bool.false_eq_true, if_false, Result.andThen_ok]
    rw [setCell_blk h]
    have hb := lt_of_get h
    have h1 : (setBlk w b (.cells (c.setIfInBounds (o + i) v) t (lo, hi))).heap[b]? = some (.cells (c.setIfInBounds (o + i) v) t (lo, hi)) := by
      rw [setBlk_get _ _ hb, if_pos rfl]
    rw [store_run vs (i + 1) _ _ h1 (by simpa using hf) (by simp; omega) (fun x hx => hv x (by simp [hx]))]
    rw [setBlk_setBlk]
    suffices hh : spliceA (c.setIfInBounds (o + i) v) (o + (i + 1)) vs = spliceA c (o + i) (v :: vs) by rw [hh]
    unfold spliceA
    congr 1
    have : (c.setIfInBounds (o + i) v).toList = splice c.toList (o + i) [v] := by
      rw [Array.toList_setIfInBounds, set_splice (by simp; omega)]
    rw [this, show o + (i + 1) = (o + i) + [v].length from by simp; omega, splice_splice (by simp; omega)]; rfl
theorem load_run {b o n : Nat} {us : List Value} (h : ∀ j v, us[j]? = some v → w.cell? ⟨b, o + j, none⟩ = some v) (hn : us.length = n) :
    (loadCells ⟨b, o, none⟩ n).run P w = .ok us.toArray w := by
  subst hn
  exact run_loadCells_list w _ us fun j v hj => by rw [addr_add]; exact h j v hj
theorem cells_at {b o : Nat} {c : Array Value} {t : TypeId} {fz : Nat × Nat} {us : List Value} (h : w.heap[b]? = some (.cells c t fz)) (hu : (c.toList.drop o).take us.length = us) :
    ∀ j v, us[j]? = some v → w.cell? ⟨b, o + j, none⟩ = some v := by
  intro j v hj
  rw [cell_of h]
  have hl : j < us.length := by
    rcases Nat.lt_or_ge j us.length with h' | h'
    · exact h'
    · rw [List.getElem?_eq_none h'] at hj; cases hj
  rw [← hu, List.getElem?_take, if_pos hl, List.getElem?_drop] at hj
  simpa using hj
theorem RepH.cells (h : RepH S w0 E H nx w) {p : Place} {rw : Bool} {us : List Value} (k : us = [] ∧ p.room = 0 ∨ Blk w E p rw us) :
    ∀ j v, us[j]? = some v → w.cell? ⟨p.blk, p.off + j, none⟩ = some v := by
  rcases k with ⟨rfl, _⟩ | k
  · intro j v hj; simp at hj
  · cases rw with
    | true =>
      obtain ⟨c, t, lo, hi, hb, _, _, _, hu⟩ := k
      exact cells_at hb hu
    | false =>
      obtain ⟨_, c, hb, hu⟩ := k
      obtain ⟨t, fz, hw⟩ := h.imOK _ _ _ hb
      exact cells_at hw hu
theorem RepH.imcells (h : RepH S w0 E H nx w) {esc : Bool} {b o : Nat} {us : List Value} (k : ImAt E esc b o us) : ∀ j v, us[j]? = some v → w.cell? ⟨b, o + j, none⟩ = some v := by
  obtain ⟨c, hb, hu⟩ := k
  obtain ⟨t, fz, hw⟩ := h.imOK _ _ _ hb
  exact cells_at hw hu
def Cont (E : En) (H : Nat → Option JObj) : JObj → List Value → Prop
  | .box cs _, us => RCs E H cs us
  | .row e l _, us => EKL E e l us ∧ l.length ≤ ML
theorem ObjOK_iff {id : Nat} {o : JObj} : ObjOK w E H id o ↔ ∃ us, Cont E H o us ∧ (us = [] ∧ (E.φ id).room = 0 ∨ Blk w E (E.φ id) o.rw us) := by cases o <;> rfl
theorem Cont.ren {f : Nat → Option Nat} {E' : En} {H' : Nat → Option JObj} (G : Goes f E H E' H') {o : JObj} {us : List Value} (h : Cont E H o us) : Cont E' H' (o.ren f) us := by
  cases o with
  | box cs rw => exact RCs_ren G _ _ h
  | row e l rw => exact ⟨EKL.mono G.im h.1, h.2⟩
theorem JObj.ren_some (o : JObj) : o.ren some = o := by cases o <;> simp [JObj.ren, renL_some]
theorem rw_ren (f : Nat → Option Nat) (o : JObj) : (o.ren f).rw = o.rw := by cases o <;> rfl
theorem ObjOK.go {f : Nat → Option Nat} {E' : En} {H' : Nat → Option JObj} {w' : World} (G : Goes f E H E' H') {id i : Nat} {o : JObj} (h : ObjOK w E H id o) (hp : E'.φ i = E.φ id)
    (hw : o.rw = true → 0 < (E.φ id).room → w'.heap[(E.φ id).blk]? = w.heap[(E.φ id).blk]?) : ObjOK w' E' H' i (o.ren f) := by
  rw [ObjOK_iff] at h ⊢
  obtain ⟨us, hc, hb⟩ := h
  refine ⟨us, hc.ren G, ?_⟩
  rw [hp, rw_ren]
  rcases hb with hb | hb
  · exact .inl hb
  · rcases Nat.eq_zero_or_pos (E.φ id).room with h0 | h0
    · left
      refine ⟨?_, h0⟩
      have : us.length ≤ (E.φ id).room := by
        unfold Blk at hb; split at hb
        · obtain ⟨_, _, _, _, _, _, _, h, _⟩ := hb; exact h
        · exact hb.1
      exact List.length_eq_zero_iff.1 (by omega)
    · right
      unfold Blk at hb ⊢
      split at hb
      · rename_i hr
        rw [if_pos hr]
        obtain ⟨c, t, lo, hi, h1, h2⟩ := hb
        exact ⟨c, t, lo, hi, by rw [hw hr h0]; exact h1, h2⟩
      · rename_i hr
        rw [if_neg hr]
        exact ⟨hb.1, hb.2.choose, G.im _ _ _ hb.2.choose_spec.1, hb.2.choose_spec.2⟩
theorem Keeps.same {w' : World} (h : Keeps S w0 w) (ho : w'.os = w.os) (ht : w'.tape = w.tape) (hu : w'.output = w.output) (hs : w.heap.size ≤ w'.heap.size)
    (hb : ∀ k, k < w0.heap.size → ¬ S k → w'.heap[k]? = w.heap[k]?) : Keeps S w0 w' :=
  ⟨ho.trans h.os, ht.trans h.tape, hu.trans h.output, Nat.le_trans h.size hs, fun k hk hn => (hb k hk hn).trans (h.block k hk hn)⟩
theorem RepH.heap {w' : World} (h : RepH S w0 E H nx w) (ho : w'.os = w.os) (ht : w'.tape = w.tape) (hu : w'.output = w.output) (hh : w'.heap = w.heap) : RepH S w0 E H nx w' where
  keeps := h.keeps.same ho ht hu (by rw [hh]; exact Nat.le_refl _) (fun k _ _ => by rw [hh])
  obj id o hi := by
    have := (h.obj id o hi).go (w' := w') (f := some) (E' := E) (H' := H) ⟨fun id i hn e => by cases e; exact ⟨hn, rfl, .inr rfl⟩, fun _ _ _ h => h⟩ (i := id) rfl (fun _ _ => by rw [hh])
    rwa [JObj.ren_some] at this
  own := h.own
  apart := h.apart
  imOK esc b c hc := by rw [hh]; exact h.imOK esc b c hc
  imS := h.imS
  imSub := h.imSub
  fresh := h.fresh
  nx_ := h.nx_
  mle := h.mle
  pin := h.pin
  im0 := h.im0
  shape := h.shape
theorem upd_same {α : Type} (f : Nat → α) (j : Nat) (v : α) : upd f j v j = v := by simp [upd]
theorem upd_ne {α : Type} (f : Nat → α) {j i : Nat} (v : α) (h : i ≠ j) : upd f j v i = f i := by
  unfold upd; cases hb : Nat.beq i j with
  | true => exact (h (Nat.eq_of_beq_eq_true hb)).elim
  | false => rfl
def En.add (E : En) (p : Place) : En := { E with nx := E.nx + 1, φ := upd E.φ E.nx p }
theorem goes_add (h : RepH S w0 E H nx w) (p : Place) (o : Option JObj) : Goes some E H (E.add p) (upd H nx o) where
  at_ id i hn e := by
    cases e
    refine ⟨Nat.lt_succ_of_lt hn, ?_, ?_⟩
    · exact upd_ne _ _ (by omega)
    · right; rw [upd_ne _ _ (by rw [h.nx_] at hn; omega)]
  im _ _ _ h := h
theorem RepH.shape_go (h : RepH S w0 E H nx w) {E' : En} {H' : Nat → Option JObj} (G : Goes some E H E' H') : ∀ i, i < S.m → shp (H' i) = .none ∨ shp (H' i) = S.sh0 i := fun i hi => by
  obtain ⟨_, _, h3⟩ := G.at_ i i (by rw [h.nx_]; exact Nat.lt_of_lt_of_le hi h.mle) rfl
  rcases h3 with h3 | h3
  · exact .inl h3
  · rw [h3]; exact h.shape i hi
theorem RepH.alloc (h : RepH S w0 E H nx w) (o : JObj) (ho : o.rw = true) (us : List Value) (c : Array Value) (t : TypeId) (lo hi : Nat) (hfz : hi ≤ lo ∨ c.size ≤ lo) (hc : c.toList.take us.length = us)
    (hl : us.length ≤ c.size) (hk : Cont E H o us) : RepH S w0 (E.add ⟨w.heap.size, 0, c.size⟩) (upd H nx (some o)) (nx + 1) (w.alloc (.cells c t (lo, hi))) := by
  have G := goes_add h ⟨w.heap.size, 0, c.size⟩ (some o)
  have hold : ∀ k, k < w.heap.size → (w.alloc (.cells c t (lo, hi))).heap[k]? = w.heap[k]? := fun k hk => Go.RowKit.Below.heap_alloc _ _ _ hk
  have hnew : (w.alloc (.cells c t (lo, hi))).heap[w.heap.size]? = some (.cells c t (lo, hi)) := by show (w.heap.push _)[w.heap.size]? = _; simp
  have hφ : (E.add ⟨w.heap.size, 0, c.size⟩).φ nx = ⟨w.heap.size, 0, c.size⟩ := by rw [← h.nx_]; exact upd_same _ _ _
  have hφo : ∀ id, id ≠ nx → (E.add ⟨w.heap.size, 0, c.size⟩).φ id = E.φ id := fun id hi => by rw [← h.nx_] at hi; exact upd_ne _ _ hi
  have hblk : ∀ id a, H id = some a → a.rw = true → 0 < (E.φ id).room → (E.φ id).blk < w.heap.size := by
    intro id a ha hr hp
    obtain ⟨us, _, hb⟩ := ObjOK_iff.1 (h.obj id a ha)
    rcases hb with ⟨_, h0⟩ | hb
    · omega
    · unfold Blk at hb; rw [if_pos hr] at hb
      obtain ⟨_, _, _, _, hg, _⟩ := hb
      exact lt_of_get hg
  refine ⟨?_, ?_, ?_, ?_, ?_, ?_, h.imSub, ?_, by simp [En.add, h.nx_], Nat.le_succ_of_le h.mle, fun i hi => (hφo i (by have := h.mle; omega)).trans (h.pin i hi), h.im0, h.shape_go G⟩
  · exact h.keeps.same rfl rfl rfl (by simp) fun k hk _ => hold k (Nat.lt_of_lt_of_le hk h.keeps.size)
  · intro id a ha
    by_cases e : id = nx
    · subst e
      rw [upd_same] at ha; cases ha
      refine ObjOK_iff.2 ⟨us, ?_, .inr ?_⟩
      · have := hk.ren G; rwa [JObj.ren_some] at this
      · rw [hφ]; unfold Blk; rw [if_pos ho]
        exact ⟨c, t, lo, hi, hnew, hfz, by simp, hl, by simpa using hc⟩
    · rw [upd_ne _ _ e] at ha
      have := (h.obj id a ha).go (w' := w.alloc (.cells c t (lo, hi))) G (i := id) (hφo id e) (fun hr hp => hold _ (hblk id a ha hr hp))
      rwa [JObj.ren_some] at this
  · intro id a ha hr hp
    by_cases e : id = nx
    · subst e; rw [hφ] at hp ⊢
      refine ⟨.inr h.keeps.size, fun esc => ?_⟩
      cases hm : E.im esc w.heap.size with
      | none => exact hm
      | some x => obtain ⟨t, fz, hx⟩ := h.imOK _ _ _ hm; exact absurd (lt_of_get hx) (Nat.lt_irrefl _)
    · rw [upd_ne _ _ e] at ha; rw [hφo id e] at hp ⊢
      exact h.own id a ha hr hp
  · intro i j a b ha hb hra hrb hpa hpb he
    by_cases ei : i = nx <;> by_cases ej : j = nx
    · rw [ei, ej]
    · subst ei; rw [upd_ne _ _ ej] at hb; rw [hφo j ej] at hpb he; rw [hφ] at he
      exact absurd (hblk j b hb hrb hpb) (by rw [← he]; exact Nat.lt_irrefl _)
    · subst ej; rw [upd_ne _ _ ei] at ha; rw [hφo i ei] at hpa he; rw [hφ] at he
      exact absurd (hblk i a ha hra hpa) (by rw [he]; exact Nat.lt_irrefl _)
    · rw [upd_ne _ _ ei] at ha; rw [upd_ne _ _ ej] at hb; rw [hφo i ei] at hpa he; rw [hφo j ej] at hpb he
      exact h.apart i j a b ha hb hra hrb hpa hpb he
  · intro esc b x hx
    obtain ⟨t', fz, hw⟩ := h.imOK esc b x hx
    exact ⟨t', fz, by rw [hold b (lt_of_get hw)]; exact hw⟩
  · exact h.imS
  · intro id hid
    rw [upd_ne _ _ (by omega)]; exact h.fresh id (by omega)
theorem RepH.kill (h : RepH S w0 E H nx w) (id : Nat) : RepH S w0 E (upd H id none) nx w := by
  have G : Goes some E H E (upd H id none) := ⟨fun i j hn e => by
    cases e; refine ⟨hn, rfl, ?_⟩
    by_cases hi : i = id
    · subst hi; left; rw [upd_same]; rfl
    · right; rw [upd_ne _ _ hi], fun _ _ _ h => h⟩
  have hsub : ∀ i a, upd H id none i = some a → H i = some a := fun i a ha => by
    by_cases hi : i = id
    · subst hi; rw [upd_same] at ha; cases ha
    · rwa [upd_ne _ _ hi] at ha
  refine ⟨h.keeps, fun i a ha => ?_, fun i a ha => h.own i a (hsub i a ha), fun i j a b ha hb => h.apart i j a b (hsub i a ha) (hsub j b hb), h.imOK, h.imS, h.imSub, fun i hi => ?_, h.nx_, h.mle, h.pin, h.im0, h.shape_go G⟩
  · have := (h.obj i a (hsub i a ha)).go (w' := w) G (i := i) rfl (fun _ _ => rfl)
    rwa [JObj.ren_some] at this
  · by_cases e : i = id
    · subst e; exact upd_same _ _ _
    · rw [upd_ne _ _ e]; exact h.fresh i hi
theorem goes_kill (id : Nat) : Goes some E H E (upd H id none) := ⟨fun i j hn e => by
    cases e; refine ⟨hn, rfl, ?_⟩
    by_cases hi : i = id
    · subst hi; left; rw [upd_same]; rfl
    · right; rw [upd_ne _ _ hi], fun _ _ _ h => h⟩
theorem goes_put (id : Nat) {o o' : JObj} (hid : H id = some o) (hs : shp (some o') = shp (some o)) : Goes some E H E (upd H id (some o')) := ⟨fun i j hn e => by
    cases e; refine ⟨hn, rfl, .inr ?_⟩
    by_cases hi : i = id
    · subst hi; rw [upd_same, hid, hs]
    · rw [upd_ne _ _ hi], fun _ _ _ h => h⟩
theorem RepH.write (h : RepH S w0 E H nx w) {id : Nat} {o o' : JObj} (hid : H id = some o) (hr : o.rw = true) (hr' : o'.rw = true) (hs : shp (some o') = shp (some o)) {us us' : List Value}
    (hb : Blk w E (E.φ id) true us) (hl : us'.length = us.length) (hk : Cont E H o' us') (hpos : 0 < (E.φ id).room) :
    ∃ c t lo hi, w.heap[(E.φ id).blk]? = some (.cells c t (lo, hi)) ∧ (hi ≤ lo ∨ c.size ≤ lo) ∧ (E.φ id).off + us.length ≤ c.size ∧ (c.toList.drop (E.φ id).off).take us.length = us ∧
      RepH S w0 E (upd H id (some o')) nx (setBlk w (E.φ id).blk (.cells (spliceA c (E.φ id).off us') t (lo, hi))) := by
  unfold Blk at hb; rw [if_pos rfl] at hb
  obtain ⟨c, t, lo, hi, hg, hfz, hsz, hlu, hu⟩ := hb
  have hbl := lt_of_get hg
  refine ⟨c, t, lo, hi, hg, hfz, by omega, hu, ?_⟩
  have G : Goes some E H E (upd H id (some o')) := goes_put id hid hs
  have hget : ∀ k, k ≠ (E.φ id).blk → (setBlk w (E.φ id).blk (.cells (spliceA c (E.φ id).off us') t (lo, hi))).heap[k]? = w.heap[k]? := fun k hk => by
    rw [setBlk_get _ _ hbl, if_neg hk]
  have hown := h.own id o hid hr hpos
  have hsz' : (spliceA c (E.φ id).off us').size = c.size := by
    simp only [spliceA, List.size_toArray]; rw [splice_len (by simp; omega)]; simp
  have hnew : ∀ i a, upd H id (some o') i = some a → (i = id ∧ a = o') ∨ (i ≠ id ∧ H i = some a) := fun i a ha => by
    by_cases e : i = id
    · subst e; rw [upd_same] at ha; cases ha; exact .inl ⟨rfl, rfl⟩
    · rw [upd_ne _ _ e] at ha; exact .inr ⟨e, ha⟩
  refine ⟨?_, ?_, ?_, ?_, ?_, h.imS, h.imSub, ?_, h.nx_, h.mle, h.pin, h.im0, h.shape_go G⟩
  · refine h.keeps.same rfl rfl rfl (by rw [setBlk_size]; exact Nat.le_refl _) fun k hk hn => hget k fun e => ?_
    subst e
    rcases hown.1 with h1 | h1
    · exact hn h1
    · omega
  · intro i a ha
    rcases hnew i a ha with ⟨rfl, rfl⟩ | ⟨hne, ha⟩
    · refine ObjOK_iff.2 ⟨us', ?_, .inr ?_⟩
      · have := hk.ren G; rwa [JObj.ren_some] at this
      · unfold Blk; rw [hr', if_pos rfl]
        refine ⟨_, t, lo, hi, by rw [setBlk_get _ _ hbl, if_pos rfl], by rw [hsz']; exact hfz, by rw [hsz']; exact hsz, by omega, ?_⟩
        have hlen : (c.toList.take (E.φ i).off).length = (E.φ i).off := by rw [List.length_take]; simp; omega
        simp only [spliceA, splice]
        rw [List.drop_append, hlen, List.drop_eq_nil_of_le (by omega), List.nil_append, Nat.sub_self, List.drop_zero, List.take_append, List.take_of_length_le (Nat.le_refl _), Nat.sub_self, List.take_zero, List.append_nil]
    · have := (h.obj i a ha).go (w' := setBlk w (E.φ id).blk (.cells (spliceA c (E.φ id).off us') t (lo, hi))) G (i := i) rfl (fun hra hpa => hget _ fun e => hne (h.apart i id a o ha hid hra hr hpa hpos e))
      rwa [JObj.ren_some] at this
  · intro i a ha hra hpa
    rcases hnew i a ha with ⟨rfl, rfl⟩ | ⟨hne, ha⟩
    · exact hown
    · exact h.own i a ha hra hpa
  · intro i j a b ha hb hra hrb hpa hpb he
    rcases hnew i a ha with ⟨h1, h2⟩ | ⟨hne, ha1⟩ <;> rcases hnew j b hb with ⟨h3, h4⟩ | ⟨hne', hb1⟩
    · rw [h1, h3]
    · subst h1; exact h.apart i j o b hid hb1 hr hrb hpa hpb he
    · subst h3; exact h.apart i j a o ha1 hid hra hr hpa hpb he
    · exact h.apart i j a b ha1 hb1 hra hrb hpa hpb he
  · intro esc b x hx
    obtain ⟨t', fz, hw⟩ := h.imOK esc b x hx
    refine ⟨t', fz, ?_⟩
    rw [hget b fun e => ?_]; · exact hw
    subst e; rw [hown.2 esc] at hx; cases hx
  · intro i hi
    have : i ≠ id := fun e => by subst e; rw [h.fresh i hi] at hid; cases hid
    rw [upd_ne _ _ this]; exact h.fresh i hi
end Go.Eng

namespace Go.Eng
variable {R : Type} {P : Program} {S : Sc} {w0 w : World} {E : En} {st : St} {a : Act} {r : R}
def Out (K : K1 R) (r : R) (S : Sc) (w0 : World) (st : St) (a : Act) (v : Value) (w' : World) : Prop :=
  ∃ E' jv st', K jv st' = some r ∧ st'.env = st.env ∧ RV E' st'.H jv v ∧ Rep S w0 E' st' a w'
def Lands (P : Program) (N : Value → World → Prop) : Result Next → Prop
  | .ok (.value v) w' => N v w'
  | .ok .skip w' => N undef w'
  | .ok (.enter f args) w' => Calls P f args w' fun e w'' => ∃ v, e = .returned v ∧ N v w''
  | _ => False
theorem flat_RV {H : Nat → Option JObj} {v : JV} {x : Value} (hf : v.flat = true) (h : RC E H v [x]) : RV E H v x := by
  cases v <;> first | exact h | trivial | (simp [JV.flat] at hf)
theorem RV_flat {H : Nat → Option JObj} {v : JV} {x : Value} (hf : v.flat = true) (hj : v ≠ .junk) (h : RV E H v x) : RC E H v [x] := by
  cases v <;> first | exact h | exact (hj rfl).elim | (simp [JV.flat] at hf)
theorem RC_one {H : Nat → Option JObj} {v : JV} {us : List Value} (hf : v.flat = true) (h : RC E H v us) : ∃ x, us = [x] ∧ oneC x = true := by
  cases v <;> simp only [RC] at h <;> first
    | (obtain ⟨cs, rfl, _⟩ := h; exact ⟨_, rfl, fnV_one _ cs⟩)
    | (obtain ⟨rfl, _⟩ := h; exact ⟨_, rfl, rfl⟩)
    | (subst h; exact ⟨_, rfl, rfl⟩)
    | (obtain ⟨_, x, rfl, h, _⟩ := h; exact ⟨x, rfl, h⟩)
    | (obtain ⟨x, rfl, h⟩ := h; exact ⟨x, rfl, h⟩)
    | (obtain ⟨x, rfl, _⟩ := h; exact ⟨_, rfl, rfl⟩)
    | (obtain ⟨x, y, rfl, _⟩ := h; exact ⟨_, rfl, rfl⟩)
    | (obtain ⟨x, y, z, rfl, _⟩ := h; exact ⟨_, rfl, rfl⟩)
    | (obtain ⟨_, y, z, rfl, _⟩ := h; exact ⟨_, rfl, rfl⟩)
    | (simp [JV.flat] at hf)
theorem ints_one {k : IntKind} {l : List Int} : ∀ x ∈ l.map (Value.int k), oneC x = true := by
  intro x hx; obtain ⟨n, _, rfl⟩ := List.mem_map.1 hx; rfl
theorem RC_ones {H : Nat → Option JObj} {v : JV} {us : List Value} (h : RC E H v us) : ∀ x ∈ us, oneC x = true := by
  by_cases hf : v.flat = true
  · obtain ⟨x, rfl, hx⟩ := RC_one hf h; simpa using hx
  · cases v <;> simp only [JV.flat, not_true_eq_false] at hf <;> simp only [RC] at h
    obtain ⟨rfl, _⟩ := h; exact ints_one
theorem RCs_ones {H : Nat → Option JObj} : ∀ {cs : List JV} {us : List Value}, RCs E H cs us → ∀ x ∈ us, oneC x = true
  | [], us, h => by simp only [RCs] at h; subst h; simp
  | c :: r, us, h => by
    obtain ⟨p, q, rfl, hp, hq⟩ := h
    intro x hx
    rcases List.mem_append.1 hx with hx | hx
    · exact RC_ones hp x hx
    · exact RCs_ones hq x hx
theorem RV_cells {H : Nat → Option JObj} {v : JV} {x : Value} (hj : v ≠ .junk) (ht : ∀ vs, v ≠ .tup vs) (h : RV E H v x) : RCs E H v.cells x.cells.toList := by
  rw [RV_tup ht] at h
  by_cases hf : v.flat = true
  · have hc := RV_flat hf hj (by rw [RV_tup ht]; exact h)
    obtain ⟨y, hy, h1⟩ := RC_one hf hc
    cases hy
    have e1 : v.cells = [v] := by cases v <;> first | rfl | (simp [JV.flat] at hf)
    have e2 : x.cells = #[x] := by cases x <;> first | rfl | (simp [oneC] at h1)
    rw [e1, e2]
    exact ⟨[x], [], rfl, hc, rfl⟩
  · cases v <;> simp only [JV.flat, not_true_eq_false] at hf
    · obtain ⟨vs, rfl, h⟩ := h
      exact ⟨vs.toList, [], by simp [Value.cells], h, rfl⟩
    · obtain ⟨vs, rfl, h⟩ := h
      exact h
    · exact (ht _ rfl).elim
theorem oneV_ok {H : Nat → Option JObj} {cs : List JV} {v : JV} {us : List Value} (h : oneV cs = some v) (hr : RCs E H cs us) : ∃ x, us = [x] ∧ RV E H v x := by
  unfold oneV at h
  split at h
  · rename_i c
    cases hc : c.flat with
    | false => rw [hc] at h; cases h
    | true =>
      rw [hc] at h; simp only [cond_true, Option.some.injEq] at h; subst h
      simp only [RCs] at hr
      obtain ⟨p, q, rfl, hp, rfl⟩ := hr
      obtain ⟨x, rfl, hx⟩ := RC_one hc hp
      exact ⟨x, rfl, flat_RV hc hp⟩
  · cases h
theorem asVal_ok {H : Nat → Option JObj} {t : TypeId} {cs : List JV} {v : JV} {us : List Value} (h : asVal P t cs = some v) (hr : RCs E H cs us) :
    ∃ d, P.underlying t = some d ∧ (match d with
      | .struct _ | .array _ _ => RV E H v (.agg us.toArray)
      | _ => ∃ x, us = [x] ∧ RV E H v x) := by
  unfold asVal at h
  cases hu : P.underlying t with
  | none => rw [hu] at h; cases h
  | some d =>
    refine ⟨d, rfl, ?_⟩
    rw [hu] at h
    cases d with
    | struct fs => simp only [Option.some.injEq] at h; subst h; exact ⟨_, rfl, by simpa using hr⟩
    | array n e =>
      simp only at h ⊢
      split at h
      · rename_i k n l
        simp only [Option.some.injEq] at h; subst h
        simp only [RCs] at hr
        obtain ⟨p, q, rfl, hp, rfl⟩ := hr
        exact ⟨_, rfl, by simpa using hp⟩
      · simp only [Option.some.injEq] at h; subst h; exact ⟨_, rfl, by simpa using hr⟩
    | _ => exact oneV_ok h hr
theorem run_underlying {t : TypeId} {d : TypeDesc} (h : P.underlying t = some d) : (underlying t).run P w = .ok d w := by simp [underlying, h]
theorem info_size {t : TypeId} {d : TypeDesc} (h : P.underlying t = some d) : ∃ i, P.info? t = some i := by
  unfold Program.underlying at h
  cases hi : P.info? t with
  | none => rw [hi] at h; cases h
  | some i => exact ⟨i, rfl⟩
theorem run_sizeOf {t : TypeId} {d : TypeDesc} (h : P.underlying t = some d) : (sizeOf t).run P w = .ok (sizeJ P t) w := by
  obtain ⟨i, hi⟩ := info_size h
  simp [sizeOf, typeInfo, hi, sizeJ, Program.cellsOf]
theorem Rep.step {E' : En} {H' : Nat → Option JObj} {nx' : Nat} {w' : World} (h : Rep S w0 E st a w) (G : Goes some E st.H E' H') (hR : RepH S w0 E' H' nx' w') : Rep S w0 E' ⟨st.env, H', nx'⟩ a w' :=
  { hR with
    env := fun i => by have := RV_ren G (h.env i); rwa [ren_some] at this
    defers := h.defers }
theorem opnd_ok (h : Rep S w0 E st a w) (x : Operand) : RV E st.H (opndJ st x) (a.eval x) := by
  cases x with
  | tmp t => exact h.env t
  | func f => exact ⟨#[], (by rw [fnV_nil]; rfl), rfl⟩
  | global g => trivial
  | const v =>
    cases v
    case int k n =>
      simp only [opndJ, Act.eval]
      cases hc : (decide (k.min ≤ n) && decide (n ≤ k.max)) with
      | true => simp only [Bool.and_eq_true, decide_eq_true_eq] at hc; exact ⟨rfl, hc⟩
      | false => trivial
    case bool b => rfl
    case string s =>
      simp only [opndJ, Act.eval]
      cases hc : Nat.ble s.size 9223372036854775807 with
      | true => exact ⟨_, rfl, rfl, by have := Nat.le_of_ble_eq_true hc; simp only [List.length_map, Array.length_toList]; exact this⟩
      | false => trivial
    case nilFunc => rfl
    case pointer p => cases p <;> trivial
    case slice p n c =>
      show RV E st.H (opndJ st (.const (.slice p n c))) (.slice p n c)
      cases p with
      | some _ => trivial
      | none => cases n with
        | succ _ => trivial
        | zero => cases c with
          | succ _ => trivial
          | zero => rfl
    all_goals trivial
theorem asBoolK_inv {v : JV} {K : Bool → Option R} (h : asBoolK v K = some r) : ∃ b, v = .bool b ∧ K b = some r := by
  unfold asBoolK at h
  split at h
  · rename_i b; cases b <;> simp at h <;> exact ⟨_, rfl, h⟩
  · cases h
theorem Out.same {K : K1 R} {jv : JV} {v : Value} (h : Rep S w0 E st a w) (hK : K jv st = some r) (hv : RV E st.H jv v) : Out K r S w0 st a v w := ⟨E, jv, st, hK, rfl, hv, h⟩
theorem pow_pos_int (n : Nat) : (0 : Int) < 2 ^ n := Int.pow_pos (by decide)
theorem wrap_in (k : IntKind) (n : Int) : inK k (k.wrap n) := by
  have key : ∀ b : Nat, (2 : Int) ^ (b + 1) = 2 * 2 ^ b := fun b => by rw [Int.pow_succ]; omega
  have hb : ∃ b, k.bits = b + 1 := by cases k <;> exact ⟨_, rfl⟩
  obtain ⟨b, hb⟩ := hb
  have hp := pow_pos_int b
  have h1 := Int.emod_nonneg n (show (2 : Int) ^ (b + 1) ≠ 0 by have := pow_pos_int (b + 1); omega)
  have h2 := Int.emod_lt_of_pos n (pow_pos_int (b + 1))
  have e := key b
  unfold inK IntKind.wrap IntKind.min IntKind.max
  simp only [hb, Nat.add_sub_cancel]
  cases hs : k.signed with
  | true =>
    simp only [if_true, Bool.true_and, decide_eq_true_eq]
    split <;> omega
  | false =>
    simp only [Bool.false_eq_true, if_false, Bool.false_and]
    omega
theorem tmod_in {k : IntKind} {x y : Int} (h : inK k x) : inK k (x.tmod y) := by
  obtain ⟨h1, h2⟩ := h
  have hmin : k.min ≤ 0 := by cases k <;> decide
  have hmax : 0 ≤ k.max := by cases k <;> decide
  rcases Int.le_total 0 x with hx | hx
  · have := Int.tmod_nonneg y hx
    have h3 : x.tmod y ≤ x := by
      have := Int.natAbs_tmod x y
      have h4 : (x.natAbs % y.natAbs) ≤ x.natAbs := Nat.mod_le _ _
      omega
    exact ⟨by omega, by omega⟩
  · have h5 : x.tmod y ≤ 0 := by
      have := Int.tmod_nonneg y (show 0 ≤ -x by omega)
      rw [Int.neg_tmod] at this; omega
    have h3 : x ≤ x.tmod y := by
      have := Int.natAbs_tmod x y
      have h4 : (x.natAbs % y.natAbs) ≤ x.natAbs := Nat.mod_le _ _
      omega
    exact ⟨by omega, by omega⟩
theorem fdiv_in {k : IntKind} {x : Int} {n : Nat} (h : inK k x) : inK k (x.fdiv (2 ^ n)) := by
  obtain ⟨h1, h2⟩ := h
  have hmin : k.min ≤ 0 := by cases k <;> decide
  have hmax : 0 ≤ k.max := by cases k <;> decide
  have hp := pow_pos_int n
  rw [Int.fdiv_eq_ediv_of_nonneg _ (Int.le_of_lt hp)]
  have hd : x / 2 ^ n * 2 ^ n ≤ x := Int.ediv_mul_le x (by omega)
  have hd' : x < (x / 2 ^ n + 1) * 2 ^ n := Int.lt_ediv_add_one_mul_self x hp
  rcases Int.le_total 0 x with hx | hx
  · have h3 : 0 ≤ x / 2 ^ n := Int.ediv_nonneg hx (Int.le_of_lt hp)
    have h4 : x / 2 ^ n ≤ x := Int.ediv_le_self _ hx
    exact ⟨by omega, by omega⟩
  · have h4 : x / 2 ^ n ≤ 0 := by
      rcases Int.lt_or_le 0 (x / 2 ^ n) with h' | h'
      · exfalso
        have : 1 * 2 ^ n ≤ x / 2 ^ n * 2 ^ n := Int.mul_le_mul_of_nonneg_right (by omega) (Int.le_of_lt hp)
        omega
      · exact h'
    have h3 : x ≤ x / 2 ^ n := by
      rcases Int.lt_or_le (x / 2 ^ n) x with h' | h'
      · exfalso
        have h6 : (x / 2 ^ n + 1) * 2 ^ n ≤ x * 2 ^ n := Int.mul_le_mul_of_nonneg_right (by omega) (Int.le_of_lt hp)
        have h7 : x * 2 ^ n ≤ x * 1 := Int.mul_le_mul_of_nonpos_left hx (by omega)
        omega
      · exact h'
    exact ⟨by omega, by omega⟩
theorem RV_int {H : Nat → Option JObj} {k : IntKind} {n : Int} {x : Value} (h : RV E H (.int k n) x) : x = .int k n ∧ inK k n := by
  obtain ⟨h1, h2⟩ := h; cases h1; exact ⟨rfl, h2⟩
theorem int_RV {H : Nat → Option JObj} {k : IntKind} {n : Int} (h : inK k n) : RV E H (.int k n) (.int k n) := ⟨rfl, h⟩
theorem bool_RV {H : Nat → Option JObj} {b : Bool} : RV E H (.bool b) (.bool b) := rfl
theorem RV_bool {H : Nat → Option JObj} {b : Bool} {x : Value} (h : RV E H (.bool b) x) : x = .bool b := by cases h; rfl
theorem intOp_ok {op : BinOp} {k : IntKind} {x y : Int} {K : K1 R} (h : Rep S w0 E st a w) (hK : intOp op k x y st K = some r) (hx : inK k x) (hop : op ≠ .shl ∧ op ≠ .shr) (t : TypeId) :
    ∃ v, (binOp op t (.int k x) (.int k y)).run P w = .ok v w ∧ Out K r S w0 st a v w := by
  obtain ⟨hl, hr⟩ := hop
  cases op <;> simp only [intOp] at hK <;> simp only [binOp, ne_eq, not_true_eq_false, if_false, Op.intArith, Op.intDiv, Op.intBits, Op.intCmp]
  case shl => exact (hl rfl).elim
  case shr => exact (hr rfl).elim
  case quo =>
    split at hK
    · cases hK
    · rename_i hy; rw [if_neg hy]; exact ⟨_, rfl, .same h hK (int_RV (wrap_in _ _))⟩
  case rem =>
    split at hK
    · cases hK
    · rename_i hy; rw [if_neg hy]; exact ⟨_, rfl, .same h hK (int_RV (tmod_in hx))⟩
  case eql => exact ⟨_, rfl, .same h hK (by simp only [RV, RV1, RC]; congr 2)⟩
  case neq => exact ⟨_, rfl, .same h hK (by simp only [RV, RV1, RC]; congr 2)⟩
  case lss => exact ⟨_, rfl, .same h hK bool_RV⟩
  case leq => exact ⟨_, rfl, .same h hK bool_RV⟩
  case gtr => exact ⟨_, rfl, .same h hK bool_RV⟩
  case geq => exact ⟨_, rfl, .same h hK bool_RV⟩
  all_goals exact ⟨_, rfl, .same h hK (int_RV (wrap_in _ _))⟩
end Go.Eng

namespace Go.Eng
variable {R : Type} {P : Program} {S : Sc} {w0 w : World} {E : En} {st : St} {a : Act} {r : R} {H : Nat → Option JObj}
theorem EKL_int {k : IntKind} : ∀ {l : List Int} {us : List Value}, EKL E (.one (.int k)) l us ↔ us = l.map (Value.int k) ∧ ∀ x ∈ l, inK k x
  | [], us => by simp [EKL]
  | x :: l, us => by
    simp only [EKL, EKR, SKR, List.map_cons]
    constructor
    · rintro ⟨p, q, rfl, ⟨rfl, hx⟩, hq⟩
      obtain ⟨rfl, hl⟩ := (EKL_int (l := l)).1 hq
      refine ⟨rfl, fun y hy => ?_⟩
      rcases List.mem_cons.1 hy with rfl | hy
      · exact hx
      · exact hl y hy
    · rintro ⟨rfl, hl⟩
      exact ⟨_, _, rfl, ⟨rfl, hl x (by simp)⟩, (EKL_int (l := l)).2 ⟨rfl, fun y hy => hl y (by simp [hy])⟩⟩
theorem SKR_val {s : SK} {x : s.T} {us : List Value} (h : SKR E s x us) : RC E H (s.val x) us := by
  cases s <;> simp only [SKR] at h <;> simp only [SK.val, RC]
  · exact h
  · exact h
  · exact h
  · obtain ⟨hi, hml, base, cap, hu, hc, hor⟩ := h
    exact ⟨hml, base, cap, hu, hc, x.map (Value.int _), EKL_int.2 ⟨rfl, hi⟩, hor⟩
  · exact h
theorem RTR_cells : ∀ {ss : List SK} {x : RT ss} {us : List Value}, RTR E ss x us → RCs E H (rcells ss x) us
  | [], _, us, h => by simpa [rcells, RCs, RTR] using h
  | [s], x, us, h => ⟨us, [], by simp, SKR_val h, rfl⟩
  | s :: t :: r, x, us, ⟨p, q, e, hp, hq⟩ => ⟨p, q, e, SKR_val hp, RTR_cells hq⟩
theorem EKR_cells {e : EK} {x : e.T} {us : List Value} (h : EKR E e x us) : RCs E H (e.cells x) us := by
  cases e with
  | one s => exact ⟨us, [], by simp, SKR_val h, rfl⟩
  | many ss => exact RTR_cells h
theorem castL_inv {e e' : EK} {l : List e'.T} {m : List e.T} (h : castL e e' l = some m) : e' = e ∧ HEq l m := by
  unfold castL at h
  split at h
  · rename_i he; subst he; cases h; exact ⟨rfl, HEq.rfl⟩
  · cases h
theorem un_SKR {s : SK} {v : JV} {x : s.T} {us : List Value} (h : s.un v = some x) (hr : RC E H v us) : SKR E s x us := by
  cases s <;> cases v <;> simp only [SK.un] at h <;> try (cases h; done)
  · split at h
    · rename_i e; subst e; cases h; exact hr
    · cases h
  · cases h; exact hr
  · cases h; exact hr
  · cases h
    simp only [RC] at hr; subst hr
    exact ⟨by simp, Nat.zero_le _, none, 0, rfl, Nat.le_refl _, .inl rfl⟩
  · rename_i k esc e l
    cases esc with
    | false => cases h
    | true =>
      simp only [cond_true] at h
      obtain ⟨rfl, h⟩ := castL_inv h
      have h := eq_of_heq h
      subst h
      simp only [RC] at hr
      obtain ⟨hml, base, cap, hu, hc, vs, hk, hor⟩ := hr
      obtain ⟨rfl, hi⟩ := EKL_int.1 hk
      exact ⟨hi, hml, base, cap, hu, hc, hor⟩
  · split at h
    · rename_i e; obtain ⟨rfl, rfl⟩ := e; cases h; exact hr
    · cases h
theorem un_RTR : ∀ {ss : List SK} {cs : List JV} {x : RT ss} {us : List Value}, runc ss cs = some x → RCs E H cs us → RTR E ss x us
  | [], [], x, us, h, hr => by simpa [RCs, RTR] using hr
  | [], _ :: _, x, us, h, hr => by simp [runc] at h
  | [s], [], x, us, h, hr => by simp [runc] at h
  | [s], [v], x, us, h, hr => by
    simp only [runc] at h
    obtain ⟨p, q, rfl, hp, rfl⟩ := hr
    simpa [RTR] using un_SKR h hp
  | [s], v :: v' :: vs, x, us, h, hr => by simp [runc] at h
  | s :: t :: r, [], x, us, h, hr => by simp [runc] at h
  | s :: t :: r, v :: vs, x, us, h, hr => by
    simp only [runc] at h
    cases h1 : s.un v with
    | none => rw [h1] at h; cases h
    | some p =>
      rw [h1] at h; simp only at h
      cases h2 : runc (t :: r) vs with
      | none => rw [h2] at h; cases h
      | some q =>
        rw [h2] at h; cases h
        obtain ⟨us1, us2, e, hp, hq⟩ := hr
        exact ⟨us1, us2, e, un_SKR h1 hp, un_RTR h2 hq⟩
theorem un_EKR {e : EK} {cs : List JV} {x : e.T} {us : List Value} (h : e.un cs = some x) (hr : RCs E H cs us) : EKR E e x us := by
  cases e with
  | one s =>
    match cs, h, hr with
    | [v], h, hr =>
      obtain ⟨p, q, rfl, hp, rfl⟩ := hr
      simpa [EKR] using un_SKR h hp
  | many ss => exact un_RTR h hr
theorem EKL_append {e : EK} : ∀ {l m : List e.T} {us vs : List Value}, EKL E e l us → EKL E e m vs → EKL E e (l ++ m) (us ++ vs)
  | [], m, us, vs, h, h' => by simp only [EKL] at h; subst h; simpa using h'
  | x :: l, m, us, vs, ⟨p, q, e1, hp, hq⟩, h' => ⟨p, q ++ vs, by rw [e1, List.append_assoc], hp, EKL_append hq h'⟩
theorem EKL_drop {e : EK} : ∀ {l : List e.T} {us : List Value} (i : Nat), EKL E e l us → EKL E e (l.drop i) (us.drop (i * e.w))
  | l, us, 0, h => by simpa using h
  | [], us, i + 1, h => by simp only [EKL] at h; subst h; simp [EKL]
  | x :: l, us, i + 1, ⟨p, q, e1, hp, hq⟩ => by
    have hl := EKR_len hp
    rw [e1, List.drop_succ_cons, Nat.succ_mul, List.drop_append, List.drop_eq_nil_of_le (as := p) (by omega), List.nil_append, hl, Nat.add_sub_cancel]
    exact EKL_drop i hq
theorem EKL_take {e : EK} : ∀ {l : List e.T} {us : List Value} (i : Nat), EKL E e l us → EKL E e (l.take i) (us.take (i * e.w))
  | l, us, 0, h => by simp [EKL]
  | [], us, i + 1, h => by simp only [EKL] at h; subst h; simp [EKL]
  | x :: l, us, i + 1, ⟨p, q, e1, hp, hq⟩ => by
    have hl := EKR_len hp
    rw [e1, List.take_succ_cons, Nat.succ_mul, List.take_append, List.take_of_length_le (l := p) (by omega), hl, Nat.add_sub_cancel]
    exact ⟨p, _, rfl, hp, EKL_take i hq⟩
theorem EKL_get {e : EK} {l : List e.T} {us : List Value} {i : Nat} {d : e.T} (h : EKL E e l us) (hi : i < l.length) : EKR E e (l.getD i d) ((us.drop (i * e.w)).take e.w) := by
  have h1 := EKL_drop i h
  rw [List.drop_eq_getElem_cons hi] at h1
  obtain ⟨p, q, e1, hp, hq⟩ := h1
  have hl := EKR_len hp
  rw [e1, List.take_append, List.take_of_length_le (by omega), hl, Nat.sub_self, List.take_zero, List.append_nil, List.getD_eq_getElem?_getD, List.getElem?_eq_getElem hi]
  exact hp
theorem EKL_set {e : EK} : ∀ {l : List e.T} {us vs : List Value} {i : Nat} {x : e.T}, EKL E e l us → i < l.length → EKR E e x vs → EKL E e (l.set i x) (splice us (i * e.w) vs)
  | y :: l, us, vs, 0, x, ⟨p, q, e1, hp, hq⟩, hi, hx => by
    have h1 := EKR_len hp; have h2 := EKR_len hx
    refine ⟨vs, q, ?_, hx, hq⟩
    rw [e1, Nat.zero_mul, splice_left (by omega)]
    simp [splice, show vs.length = p.length from by omega]
  | y :: l, us, vs, i + 1, x, ⟨p, q, e1, hp, hq⟩, hi, hx => by
    have h1 := EKR_len hp
    refine ⟨p, splice q (i * e.w) vs, ?_, hp, EKL_set hq (by simpa using hi) hx⟩
    rw [e1, splice_right (by rw [Nat.succ_mul]; omega), h1, Nat.succ_mul, Nat.add_sub_cancel]
theorem EKL_rep {e : EK} {x : e.T} {vs : List Value} (h : EKR E e x vs) : ∀ n, EKL E e (List.replicate n x) (List.replicate n vs).flatten
  | 0 => rfl
  | n + 1 => by rw [List.replicate_succ, List.replicate_succ, List.flatten_cons]; exact ⟨vs, _, rfl, h, EKL_rep h n⟩
theorem EKL_ones {e : EK} {l : List e.T} {us : List Value} (h : EKL E e l us) : ∀ x ∈ us, oneC x = true := by
  induction l generalizing us with
  | nil => simp only [EKL] at h; subst h; simp
  | cons y l ih =>
    obtain ⟨p, q, rfl, hp, hq⟩ := h
    intro x hx
    rcases List.mem_append.1 hx with hx | hx
    · exact RCs_ones (H := fun _ => none) (EKR_cells hp) x hx
    · exact ih hq x hx
def Sees (w : World) (E : En) (H : Nat → Option JObj) (v : Value) (cs : List JV) : Prop :=
  ∃ b o us, v = .pointer (some ⟨b, o, none⟩) ∧ RCs E H cs us ∧ ∀ j x, us[j]? = some x → w.cell? ⟨b, o + j, none⟩ = some x
theorem Rep.look (h : Rep S w0 E st a w) {id : Nat} {o : JObj} (ho : st.H id = some o) : ∃ us, Cont E st.H o us ∧ ∀ j x, us[j]? = some x → w.cell? ⟨(E.φ id).blk, (E.φ id).off + j, none⟩ = some x := by
  obtain ⟨us, hc, hb⟩ := ObjOK_iff.1 (h.obj id o ho)
  exact ⟨us, hc, h.toRepH.cells hb⟩
theorem viewJ_ok {jv : JV} {v : Value} {K : List JV → Option R} (h : Rep S w0 E st a w) (hv : RV E st.H jv v) (hK : viewJ jv st K = some r) : ∃ cs, K cs = some r ∧ Sees w E st.H v cs := by
  unfold viewJ at hK
  split at hK
  · rename_i id off
    obtain ⟨hn, x, e, _, hx⟩ := hv; cases e
    split at hK
    · rename_i cs rw ho
      split at hK
      · rename_i cs' hd
        obtain ⟨us, hc, hcell⟩ := h.look ho
        obtain ⟨h1, h2⟩ := dropAt_ok hd hc
        refine ⟨cs', hK, _, _, us.drop off, hx (by rw [ho]; rfl), h1, fun j y hj => ?_⟩
        rw [List.getElem?_drop] at hj
        have := hcell _ _ hj
        rwa [← Nat.add_assoc] at this
      · cases hK
    · cases hK
  · rename_i id off i
    obtain ⟨hn, x, e, _, hx⟩ := hv; cases e
    split at hK
    · rename_i cs rw ho
      split at hK
      · rename_i k n l hg
        split at hK
        · rename_i hi
          obtain ⟨us, hc, hcell⟩ := h.look ho
          obtain ⟨h1, h2⟩ := getAt_ok hg hc
          simp only [RC, JV.wid] at h1 h2
          obtain ⟨h1, h3, h4⟩ := h1
          have hil : i < l.length := by omega
          have hget : l.getD i 0 = l[i] := by rw [List.getD_eq_getElem?_getD, List.getElem?_eq_getElem hil]; rfl
          refine ⟨_, hK, _, _, [.int k (l.getD i 0)], hx (by rw [ho]; rfl), ⟨_, [], by simp, ⟨rfl, ?_⟩, rfl⟩, fun j y hj => ?_⟩
          · rw [hget]; exact h4 _ (List.getElem_mem _)
          · cases j with
            | succ j => simp at hj
            | zero =>
              simp only [List.getElem?_cons_zero, Option.some.injEq] at hj; subst hj
              have h5 : us[off + i]? = some (.int k (l.getD i 0)) := by
                have : ((us.drop off).take n)[i]? = some (.int k (l.getD i 0)) := by rw [h1, hget]; simp [hil]
                rw [List.getElem?_take, if_pos hi, List.getElem?_drop] at this; exact this
              have := hcell _ _ h5
              rwa [← Nat.add_assoc] at this
        · cases hK
      · cases hK
    · cases hK
  · rename_i id i c
    obtain ⟨hn, x, e, _, hx⟩ := hv; cases e
    split at hK
    · rename_i e l rw ho
      split at hK
      · rename_i hi
        split at hK
        · rename_i cs hd
          obtain ⟨us, hc, hcell⟩ := h.look ho
          have h1 := EKR_cells (H := st.H) (EKL_get (d := e.dflt) hc.1 hi)
          obtain ⟨h2, h3⟩ := dropAt_ok hd h1
          refine ⟨cs, hK, _, _, _, hx e l.length (by rw [ho]; rfl), h2, fun j y hj => ?_⟩
          rw [List.getElem?_drop, List.getElem?_take] at hj
          split at hj
          · rw [List.getElem?_drop] at hj
            have := hcell _ _ hj
            rw [show (E.φ id).off + i * e.w + c + j = (E.φ id).off + (i * e.w + (c + j)) from by omega]; exact this
          · cases hj
        · cases hK
      · cases hK
    · cases hK
  · rename_i esc cs
    obtain ⟨b, o, us, e, hr, him⟩ := hv; cases e
    exact ⟨cs, hK, b, o, us, rfl, hr, h.toRepH.imcells him⟩
  · cases hK
theorem partJ_ok {t : TypeId} {cs : List JV} {us : List Value} {K : K1 R} (h : Rep S w0 E st a w) (hr : RCs E st.H cs us) (hK : partJ P t cs st K = some r) :
    ∃ d, P.underlying t = some d ∧ sizeJ P t ≤ us.length ∧ (match d with
      | .struct _ | .array _ _ => Out K r S w0 st a (.agg (us.take (sizeJ P t)).toArray) w
      | _ => ∃ x, us.take (sizeJ P t) = [x] ∧ Out K r S w0 st a x w) := by
  unfold partJ at hK
  split at hK
  · rename_i cs' ht
    split at hK
    · rename_i v hv
      obtain ⟨h1, h2⟩ := takeAt_ok ht hr
      obtain ⟨d, hd, hm⟩ := asVal_ok hv h1
      refine ⟨d, hd, h2, ?_⟩
      cases d <;> simp only at hm ⊢ <;> first
        | exact .same h hK hm
        | (obtain ⟨x, hx, hm⟩ := hm; exact ⟨x, hx, .same h hK hm⟩)
    · cases hK
  · cases hK
theorem loadJ_ok {t : TypeId} {jv : JV} {v : Value} {K : K1 R} (h : Rep S w0 E st a w) (hv : RV E st.H jv v) (hK : loadJ P t jv st K = some r) :
    ∃ x, (Instr.loadAt t v).run P w = .ok x w ∧ Out K r S w0 st a x w := by
  obtain ⟨cs, hK, b, o, us, rfl, hr, hcell⟩ := viewJ_ok h hv hK
  obtain ⟨d, hd, hle, hm⟩ := partJ_ok h hr hK
  simp only [Instr.loadAt, Instr.sureAddr, loadVar, isAgg, Sem.run_bind, Sem.run_pure, Result.andThen_ok, run_underlying hd]
  have hload : (loadCells ⟨b, o, none⟩ (sizeJ P t)).run P w = .ok (us.take (sizeJ P t)).toArray w :=
    load_run (fun j x hj => hcell j x (by rw [List.getElem?_take] at hj; split at hj; exact hj; cases hj)) (by rw [List.length_take]; omega)
  cases d <;> simp only [Sem.run_pure, Result.andThen_ok, if_true, Bool.false_eq_true, if_false, Sem.run_bind, run_sizeOf hd] at hm ⊢
  case struct fs => rw [hload]; exact ⟨_, rfl, hm⟩
  case array n e => rw [hload]; exact ⟨_, rfl, hm⟩
  all_goals
    obtain ⟨x, hx, hm⟩ := hm
    refine ⟨x, ?_, hm⟩
    have h0 : us[0]? = some x := by
      have : (us.take (sizeJ P t))[0]? = some x := by rw [hx]; rfl
      rw [List.getElem?_take] at this; split at this
      · exact this
      · cases this
    have := hcell 0 x h0
    rw [run_load]
    rw [Nat.add_zero] at this; rw [this]
end Go.Eng

namespace Go.Eng
variable {R : Type} {P : Program} {S : Sc} {w0 w : World} {E : En} {st : St} {a : Act} {r : R} {H : Nat → Option JObj}
theorem splice_get {us vs : List Value} {off : Nat} (h : off + vs.length ≤ us.length) (j : Nat) : (splice us off vs)[j]? = if j < off then us[j]? else if j < off + vs.length then vs[j - off]? else us[j]? := by
  have hl : (us.take off).length = off := by rw [List.length_take]; omega
  unfold splice
  rw [List.getElem?_append, hl]
  split
  · rename_i h1; rw [List.getElem?_take, if_pos h1]
  · rename_i h1
    rw [List.getElem?_append]
    by_cases h2 : j < off + vs.length
    · rw [if_pos (by omega), if_pos h2]
    · rw [if_neg (by omega), if_neg h2, List.getElem?_drop]; congr 1; omega
theorem splice_inner {c vs : List Value} {o k n : Nat} (h1 : o + n ≤ c.length) (h2 : k + vs.length ≤ n) : splice c o (splice ((c.drop o).take n) k vs) = splice c (o + k) vs := by
  have hn : ((c.drop o).take n).length = n := by simp; omega
  have hs : (splice ((c.drop o).take n) k vs).length = n := by rw [splice_len (by omega), hn]
  apply List.ext_getElem?
  intro j
  have A := splice_get (us := c) (vs := splice ((c.drop o).take n) k vs) (off := o) (by omega) j
  have B := splice_get (us := c) (vs := vs) (off := o + k) (by omega) j
  have C := splice_get (us := (c.drop o).take n) (vs := vs) (off := k) (by omega) (j - o)
  have D : j - o < n → ((c.drop o).take n)[j - o]? = c[o + (j - o)]? := fun h => by rw [List.getElem?_take, if_pos h, List.getElem?_drop]
  rw [A, B, hs, C]
  by_cases a1 : j < o
  · rw [if_pos a1, if_pos (by omega)]
  · rw [if_neg a1]
    have e : o + (j - o) = j := by omega
    by_cases a2 : j < o + n
    · rw [if_pos a2, D (by omega), e]
      by_cases a3 : j - o < k
      · rw [if_pos a3, if_pos (by omega)]
      · rw [if_neg a3]
        by_cases a4 : j - o < k + vs.length
        · rw [if_pos a4, if_neg (show ¬ j < o + k by omega), if_pos (show j < o + k + vs.length by omega)]; congr 1; omega
        · rw [if_neg a4, if_neg (show ¬ j < o + k by omega), if_neg (show ¬ j < o + k + vs.length by omega)]
    · rw [if_neg a2, if_neg (by omega), if_neg (by omega)]
theorem setAt_le {d : JV} : ∀ (cs : List JV) (off : Nat) (cs1 : List JV), setAt cs off d = some cs1 → off ≤ wids cs
  | [], off, cs1, hs => by simp [setAt] at hs
  | c :: r, off, cs1, hs => by
    simp only [setAt] at hs
    cases h0 : Nat.beq off 0 with
    | true => have := Nat.eq_of_beq_eq_true h0; omega
    | false =>
      rw [h0] at hs; simp only [cond_false] at hs
      simp only [wids]
      cases hb : Nat.ble c.wid off with
      | true =>
        rw [hb] at hs; simp only [cond_true] at hs
        cases ht : setAt r (off - c.wid) d with
        | none => rw [ht] at hs; cases hs
        | some l => have := setAt_le _ _ _ ht; have := Nat.le_of_ble_eq_true hb; omega
      | false =>
        have : ¬ c.wid ≤ off := fun h => by rw [Nat.ble_eq_true_of_le h] at hb; cases hb
        omega
theorem putAt_le {ds cs cs' : List JV} {off : Nat} (hp : putAt cs off ds = some cs') (h : 1 ≤ wids ds) : off ≤ wids cs := by
  cases ds with
  | nil => simp [wids] at h
  | cons d ds =>
    simp only [putAt] at hp
    cases hs : setAt cs off d with
    | none => rw [hs] at hp; cases hp
    | some cs1 => exact setAt_le _ _ _ hs
theorem size_pos {t : TypeId} (h : 1 ≤ sizeJ P t) : (sizeOf t).run P w = .ok (sizeJ P t) w := by
  unfold sizeJ Program.cellsOf at h ⊢
  cases hi : P.info? t with
  | none => rw [hi] at h; simp at h
  | some i => simp [sizeOf, typeInfo, hi]
theorem write_ok (h : Rep S w0 E st a w) {id : Nat} {o o' : JObj} (ho : st.H id = some o) (hr : o.rw = true) (hr' : o'.rw = true) (hs : shp (some o') = shp (some o)) {us vs : List Value} (hc : Cont E st.H o us)
    (hcell : us = [] ∧ (E.φ id).room = 0 ∨ Blk w E (E.φ id) o.rw us) {k : Nat} (hk : k + vs.length ≤ us.length) (hv : ∀ x ∈ vs, oneC x = true) (hpos : 1 ≤ vs.length) (hc' : Cont E st.H o' (splice us k vs)) :
    ∃ w', (storeCells ⟨(E.φ id).blk, (E.φ id).off + k, none⟩ vs).run P w = .ok () w' ∧ Rep S w0 E (st.put id o') a w' := by
  rcases hcell with ⟨rfl, _⟩ | hb
  · simp only [List.length_nil] at hk; omega
  rw [hr] at hb
  have hroom : 0 < (E.φ id).room := by
    unfold Blk at hb; rw [if_pos rfl] at hb
    obtain ⟨_, _, _, _, _, _, _, h, _⟩ := hb; omega
  obtain ⟨c, t, lo, hi, hg, hfz, hsz, hu, hR⟩ := h.toRepH.write ho hr hr' hs hb (splice_len hk) hc' hroom
  refine ⟨_, store_run vs 0 w c hg hfz (by omega) hv, ?_⟩
  have e : spliceA c ((E.φ id).off + k + 0) vs = spliceA c (E.φ id).off (splice us k vs) := by
    unfold spliceA
    congr 1
    have := splice_inner (c := c.toList) (vs := vs) (o := (E.φ id).off) (k := k) (n := us.length) (by simpa using hsz) hk
    rw [hu] at this
    exact this.symm
  rw [e]
  exact h.step (goes_put id ho hs) hR
def OutS (K : K1 R) (r : R) (S : Sc) (w0 : World) (E : En) (st : St) (a : Act) (w' : World) : Prop :=
  ∃ st', K .junk st' = some r ∧ st'.env = st.env ∧ st'.nx = st.nx ∧ (∀ i, shp (st'.H i) = shp (st.H i)) ∧ Rep S w0 E st' a w'
theorem OutS.out {K : K1 R} (h : OutS K r S w0 E st a w) : Out K r S w0 st a undef w := by
  obtain ⟨st', h1, h2, _, _, h3⟩ := h
  exact ⟨E, .junk, st', h1, h2, trivial, h3⟩
theorem put_shp {id : Nat} {o o' : JObj} (ho : st.H id = some o) (hs : shp (some o') = shp (some o)) : ∀ i, shp ((st.put id o').H i) = shp (st.H i) := fun i => by
  by_cases h : i = id
  · subst h; rw [ho, ← hs]; show shp (upd st.H i (some o') i) = _; rw [upd_same]
  · show shp (upd st.H id (some o') i) = _; rw [upd_ne _ _ h]
theorem store1J_ok {t : TypeId} {ja jv : JV} {x v : Value} {K : K1 R} (h : Rep S w0 E st a w) (ha : RV E st.H ja x) (hv : RV E st.H jv v) (hK : store1J P t ja jv st K = some r) :
    ∃ w', (Instr.storeAt t x v).run P w = .ok () w' ∧ OutS K r S w0 E st a w' := by
  unfold store1J at hK
  cases hsz : (Nat.beq (wids jv.cells) (sizeJ P t) && Nat.ble 1 (sizeJ P t)) with
  | false => rw [hsz] at hK; cases hK
  | true =>
    rw [hsz] at hK
    simp only [Bool.and_eq_true] at hsz
    have h1 : wids jv.cells = sizeJ P t := Nat.eq_of_beq_eq_true hsz.1
    have h2 : 1 ≤ sizeJ P t := Nat.le_of_ble_eq_true hsz.2
    simp only [cond_true] at hK
    have fin : ∀ {b k : Nat} {vs : List Value} {w' : World}, v.cells.toList = vs → vs.length = sizeJ P t → (storeCells ⟨b, k, none⟩ vs).run P w = .ok () w' → x = .pointer (some ⟨b, k, none⟩) →
        (Instr.storeAt t x v).run P w = .ok () w' := by
      intro b k vs w' e1 e2 e3 e4
      subst e4
      have e5 : v.cells.size = sizeJ P t := by rw [← e2, ← e1]; simp
      simp only [Instr.storeAt, Instr.sureAddr, storeVar, Sem.run_bind, Sem.run_pure, Result.andThen_ok, size_pos h2, Sem.run_ite, e5, ne_eq, not_true_eq_false, if_false]
      rw [e1]; exact e3
    split at hK
    · rename_i id off
      obtain ⟨hn, y, e, _, hx⟩ := ha; cases e
      split at hK
      · rename_i cs ho
        have hvc : (∀ vs, jv ≠ .tup vs) → jv ≠ .junk → RCs E st.H jv.cells v.cells.toList := fun h1 h2 => RV_cells h2 h1 hv
        split at hK
        · cases hK
        · cases hK
        · rename_i hj ht
          have hvs := hvc (fun vs e => ht vs e) (fun e => hj e)
          split at hK
          · rename_i cs' hp
            obtain ⟨us, hc, hb⟩ := ObjOK_iff.1 (h.obj id _ ho)
            have hlen := RCs_len hvs
            have hoff : off ≤ us.length := by have := putAt_le hp (by omega); have := RCs_len hc; omega
            obtain ⟨h3, h4⟩ := putAt_ok hp hc hvs hoff
            obtain ⟨w', h5, h6⟩ := write_ok (P := P) h ho rfl (o' := .box cs' true) rfl rfl hc hb h4 (RCs_ones hvs) (by omega) h3
            exact ⟨w', fin rfl (by omega) h5 (hx (by rw [ho]; rfl)), _, hK, rfl, rfl, put_shp ho (by simp [shp]), h6⟩
          · cases hK
      · cases hK
    · rename_i id off i
      obtain ⟨hn, y, e, _, hx⟩ := ha; cases e
      split at hK
      · rename_i cs ho
        split at hK
        · rename_i k n l k' z hg
          split at hK
          · rename_i hk; subst hk
            split at hK
            · rename_i hi
              split at hK
              · rename_i cs' hsA
                obtain ⟨us, hc, hb⟩ := ObjOK_iff.1 (h.obj id _ ho)
                obtain ⟨rfl, hz⟩ := RV_int hv
                obtain ⟨g1, g2⟩ := getAt_ok hg hc
                simp only [RC, JV.wid] at g1 g2
                obtain ⟨g1, g3, g4⟩ := g1
                have hset : RC E st.H (.arr k n (l.set i z)) ((l.set i z).map (Value.int k)) := ⟨rfl, by simpa using g3, mem_set_inK g4 hz⟩
                obtain ⟨s1, s2⟩ := setAt_ok hsA hc hset
                have e1 : splice us off ((l.set i z).map (Value.int k)) = splice us (off + i) [.int k z] := by
                  rw [map_set_int, set_splice (by simp; omega), ← g1, splice_inner g2 (by simp; omega)]
                rw [e1] at s1
                obtain ⟨w', h5, h6⟩ := write_ok (P := P) h ho rfl (o' := .box cs' true) rfl rfl hc hb (k := off + i) (vs := [.int k z]) (by simp; omega) (by simp [oneC]) (by simp) s1
                rw [← Nat.add_assoc] at h5
                exact ⟨w', fin rfl (by simp [JV.cells, wids, JV.wid] at h1; simpa [Value.cells] using h1) h5 (hx (by rw [ho]; rfl)), _, hK, rfl, rfl, put_shp ho (by simp [shp]), h6⟩
              · cases hK
            · cases hK
          · cases hK
        · cases hK
      · cases hK
    · rename_i id i c
      obtain ⟨hn, y, e, _, hx⟩ := ha; cases e
      split at hK
      · rename_i e l ho
        split at hK
        · cases hK
        · cases hK
        · rename_i hj ht
          have hvs : RCs E st.H jv.cells v.cells.toList := RV_cells (fun e => hj e) (fun vs e => ht vs e) hv
          split at hK
          · rename_i hi
            split at hK
            · rename_i cs hp
              split at hK
              · rename_i z hz
                obtain ⟨us, hc, hb⟩ := ObjOK_iff.1 (h.obj id _ ho)
                have hel := EKL_get (d := e.dflt) hc.1 hi
                have hlen := RCs_len hvs
                have hul := EKL_len hc.1
                have helen := EKR_len hel
                have hin : i * e.w + e.w ≤ us.length := by
                  rw [hul, ← Nat.succ_mul]; exact Nat.mul_le_mul_right _ hi
                have hoff : c ≤ e.w := by have := putAt_le hp (by omega); have := RCs_len (H := st.H) (EKR_cells hel); omega
                obtain ⟨p1, p2⟩ := putAt_ok hp (EKR_cells (H := st.H) hel) hvs (by omega)
                have hx' := un_EKR hz p1
                have hset := EKL_set hc.1 hi hx'
                rw [splice_inner hin (by omega)] at hset
                obtain ⟨w', h5, h6⟩ := write_ok (P := P) h ho rfl (o' := .row e (l.set i z) true) rfl (by simp [shp]) hc hb (k := i * e.w + c) (vs := v.cells.toList) (by omega) (RCs_ones hvs) (by omega) ⟨hset, by rw [List.length_set]; exact hc.2⟩
                rw [← Nat.add_assoc] at h5
                exact ⟨w', fin rfl (by omega) h5 (hx e l.length (by rw [ho]; rfl)), _, hK, rfl, rfl, put_shp ho (by simp [shp]), h6⟩
              · cases hK
            · cases hK
          · cases hK
      · cases hK
    · cases hK
end Go.Eng

namespace Go.Eng
variable {R : Type} {P : Program} {S : Sc} {w0 w : World} {E : En} {st : St} {a : Act} {r : R} {H : Nat → Option JObj}
theorem intsOk_ok {k : IntKind} : ∀ {l : List Int} {us : List Value}, intsOk k l us = true → us = l.map (Value.int k) ∧ ∀ x ∈ l, inK k x
  | [], [], _ => ⟨rfl, by simp⟩
  | [], _ :: _, h => by simp [intsOk] at h
  | _ :: _, [], h => by simp [intsOk] at h
  | n :: l, v :: us, h => by
    cases v <;> simp only [intsOk, Bool.false_eq_true] at h
    simp only [Bool.and_eq_true, beq_iff_eq, decide_eq_true_eq] at h
    obtain ⟨⟨⟨rfl, rfl⟩, hin⟩, h⟩ := h
    obtain ⟨rfl, hl⟩ := intsOk_ok h
    exact ⟨rfl, by intro y hy; rcases List.mem_cons.1 hy with e | hy; (subst e; exact hin); exact hl y hy⟩
theorem size_zero {s : ByteArray} (h : s.size = 0) : bytesOf s = [] := by
  have : s.data.toList = [] := by
    have h' : s.data.size = 0 := h
    exact List.eq_nil_of_length_eq_zero (by simpa using h')
  simp [bytesOf, this]
theorem cellsOk_ok : ∀ {cs : List JV} {us : List Value}, cellsOk cs us = true → RCs E H cs us
  | [], [], _ => rfl
  | [], _ :: _, h => by simp [cellsOk] at h
  | c :: cs, us, h => by
    cases c
    case arr k n l =>
      simp only [cellsOk, Bool.and_eq_true, beq_iff_eq] at h
      obtain ⟨⟨h1, h2⟩, h3⟩ := h
      obtain ⟨h4, h5⟩ := intsOk_ok h2
      exact ⟨us.take n, us.drop n, by simp, ⟨h4, h1, h5⟩, cellsOk_ok h3⟩
    all_goals
      cases us with
      | nil => simp [cellsOk] at h
      | cons v us =>
        cases v <;> try simp only [cellsOk, Bool.false_eq_true, Bool.and_eq_true, beq_iff_eq, decide_eq_true_eq] at h
        all_goals first
        | (obtain ⟨⟨⟨rfl, rfl⟩, hin⟩, h⟩ := h; exact ⟨[_], us, rfl, ⟨rfl, hin⟩, cellsOk_ok h⟩)
        | (obtain ⟨⟨rfl, hs⟩, h⟩ := h; exact ⟨[_], us, rfl, ⟨_, rfl, (size_zero hs).symm, Nat.zero_le _⟩, cellsOk_ok h⟩)
        | (obtain ⟨rfl, h⟩ := h; exact ⟨[_], us, rfl, rfl, cellsOk_ok h⟩)
        | (exact ⟨[_], us, rfl, rfl, cellsOk_ok h⟩)
        | (rename_i p; cases p <;> simp only [cellsOk, Bool.false_eq_true] at h; exact ⟨[_], us, rfl, rfl, cellsOk_ok h⟩)
        | (rename_i p n c; cases p <;> cases n <;> cases c <;> simp only [cellsOk, Bool.false_eq_true] at h; exact ⟨[_], us, rfl, rfl, cellsOk_ok h⟩)
theorem zeroJ_ok {t : TypeId} {z : List JV} (h : zeroJ P t = some z) : ∃ i zv, P.info? t = some i ∧ i.zero = some zv ∧ ∀ E H, RCs E H z zv.cells.toList := by
  unfold zeroJ at h
  split at h
  · rename_i cs i h1 h2
    split at h
    · rename_i zv hz
      cases hc : cellsOk cs zv.cells.toList with
      | false => rw [hc] at h; cases h
      | true => rw [hc] at h; cases h; exact ⟨i, zv, h2, hz, fun _ _ => cellsOk_ok hc⟩
    · cases h
  · cases h
theorem run_zero {t : TypeId} {i : TypeInfo} {zv : Value} (h : P.info? t = some i) (hz : i.zero = some zv) : (zeroValue t).run P w = .ok zv w := by simp [zeroValue, typeInfo, h, hz]
theorem made_ok (h : Rep S w0 E st a w) (o : JObj) (ho : o.rw = true) (us : List Value) (c : Array Value) (t : TypeId) (lo hi : Nat) (hfz : hi ≤ lo ∨ c.size ≤ lo) (hc : c.toList.take us.length = us) (hl : us.length ≤ c.size)
    (hk : Cont E st.H o us) {K : K1 R} {jv : JV} {v : Value} (hv : RV (E.add ⟨w.heap.size, 0, c.size⟩) (upd st.H st.nx (some o)) jv v) (hK : K jv (st.new o) = some r) :
    Out K r S w0 st a v (w.alloc (.cells c t (lo, hi))) :=
  ⟨_, jv, st.new o, hK, rfl, hv, h.step (goes_add h.toRepH _ _) (h.toRepH.alloc o ho us c t lo hi hfz hc hl hk)⟩
theorem new_φ (h : Rep S w0 E st a w) (p : Place) : (E.add p).φ st.nx = p := by rw [← h.nx_]; exact upd_same _ _ _
theorem new_nx (h : Rep S w0 E st a w) (p : Place) : st.nx < (E.add p).nx := by show st.nx < E.nx + 1; rw [h.nx_]; exact Nat.lt_succ_self _
theorem ptr_new (h : Rep S w0 E st a w) (n : Nat) (o : Option JObj) : RV (E.add ⟨w.heap.size, 0, n⟩) (upd st.H st.nx o) (.ptr st.nx 0) (.pointer (some ⟨w.heap.size, 0, none⟩)) :=
  ⟨new_nx h _, _, rfl, rfl, fun _ => by rw [new_φ h]⟩
theorem full_new (h : Rep S w0 E st a w) {e : EK} {l : List e.T} {m n : Nat} (hm : l.length ≤ m) (hn : m * e.w ≤ n) : RV (E.add ⟨w.heap.size, 0, n⟩) (upd st.H st.nx (some (.row e l true))) (.full st.nx) (.slice (some ⟨w.heap.size, 0, none⟩) l.length m) := by
  refine ⟨new_nx h _, _, rfl, rfl, fun e' n' hs => ?_⟩
  rw [upd_same] at hs; cases hs
  rw [new_φ h]
  exact ⟨_, _, rfl, hm, by omega, by simpa using hn, .inr (by simp)⟩
def Reads (P : Program) (w : World) (v : Value) (n s : Nat) (us : List Value) : Prop :=
  (∀ w', (Builtin.lenOf v).run P w' = .ok n w') ∧ ∀ w', w'.heap = w.heap → (Builtin.firstCells s n v).run P w' = .ok us.toArray w'
theorem reads_cells {b o n c s : Nat} {us : List Value} (hn : us.length = n * s) (h : ∀ j x, us[j]? = some x → w.cell? ⟨b, o + j, none⟩ = some x) : Reads P w (.slice (some ⟨b, o, none⟩) n c) n s us :=
  ⟨fun w' => rfl, fun w' hw => load_run (fun j x hj => by rw [← h j x hj]; simp [World.cell?, hw]) hn⟩
theorem reads_none {base : Option Addr} {c s : Nat} : Reads P w (.slice base 0 c) 0 s [] :=
  ⟨fun w' => rfl, fun w' hw => by cases base <;> simp [Builtin.firstCells, loadCells, loadCellsFrom]⟩
theorem reads_row (h : Rep S w0 E st a w) {id : Nat} {e : EK} {l : List e.T} {rw : Bool} (ho : st.H id = some (.row e l rw)) {off n : Nat} (hon : off + n ≤ l.length) (hw : 1 ≤ e.w) {v : Value}
    (hs : SlOK (E.φ id) e.w off n l.length v) : ∃ us, EKL E e ((l.drop off).take n) us ∧ Reads P w v n e.w us := by
  obtain ⟨us, hc, hcell⟩ := h.look ho
  have h1 := EKL_take n (EKL_drop off hc.1)
  have hlen := EKL_len h1
  have hln : ((l.drop off).take n).length = n := by simp; omega
  rw [hln] at hlen
  refine ⟨_, h1, ?_⟩
  obtain ⟨base, cap, rfl, hle, hN, hroom, hb⟩ := hs
  rcases hb with h0 | hb
  · have : n = 0 := by omega
    subst this
    have e0 : ((us.drop (off * e.w)).take (0 * e.w)) = [] := by simp
    rw [e0]; exact reads_none
  · subst hb
    refine reads_cells hlen fun j x hj => ?_
    rw [List.getElem?_take] at hj
    split at hj
    · rw [List.getElem?_drop] at hj
      have := hcell _ _ hj
      rwa [← Nat.add_assoc] at this
    · cases hj
theorem bytes_len {s : ByteArray} : (bytesOf s).length = s.size := by simp [bytesOf]
theorem listJ_ok (h : Rep S w0 E st a w) {e : EK} {jv : JV} {v : Value} {l : List e.T} (hw : 1 ≤ e.w) (hv : RV E st.H jv v) (hl : listJ e jv st = some l) : ∃ us, EKL E e l us ∧ Reads P w v l.length e.w us := by
  unfold listJ at hl
  split at hl
  · cases hl; cases hv; exact ⟨[], rfl, reads_none⟩
  · rename_i esc e' l'
    obtain ⟨rfl, hl⟩ := castL_inv hl
    have hl := eq_of_heq hl; subst hl
    obtain ⟨_, base, cap, e1, hc, vs, hk, hor⟩ := hv; cases e1
    refine ⟨vs, hk, ?_⟩
    rcases hor with rfl | ⟨b, o, rfl, him⟩
    · simp only [EKL] at hk; subst hk; exact reads_none
    · exact reads_cells (EKL_len hk) (h.toRepH.imcells him)
  · rename_i l'
    obtain ⟨h1, hl⟩ := castL_inv hl
    subst h1
    have hl := eq_of_heq hl; subst hl
    obtain ⟨s, e1, rfl, _⟩ := hv; cases e1
    refine ⟨(bytesOf s).map (Value.int .u8), EKL_int.2 ⟨rfl, ?_⟩, fun w' => ?_, fun w' hw => ?_⟩
    · intro x hx
      obtain ⟨b, _, rfl⟩ := List.mem_map.1 hx
      have := b.toNat_lt
      constructor
      · show (0 : Int) ≤ _; omega
      · show _ ≤ (255 : Int); omega
    · rw [bytes_len]; rfl
    · rw [bytes_len]
      simp only [Builtin.firstCells, Sem.run_pure]
      congr 1
      have : s.extract 0 s.size = s := by simp
      rw [this]
      apply Array.ext'
      simp [bytesOf]
  · rename_i id
    split at hl
    · rename_i e' l' rw ho
      obtain ⟨rfl, hl⟩ := castL_inv hl
      have hl := eq_of_heq hl; subst hl
      obtain ⟨hn, x, e1, _, hx⟩ := hv; cases e1
      have := reads_row (P := P) h ho (off := 0) (n := l'.length) (by omega) hw (hx _ _ (by rw [ho]; rfl))
      simpa using this
    · cases hl
  · rename_i id off n
    split at hl
    · rename_i e' l' rw ho
      obtain ⟨rfl, hl⟩ := castL_inv hl
      have hl := eq_of_heq hl; subst hl
      obtain ⟨hn, x, e1, _, hx⟩ := hv; cases e1
      obtain ⟨hle, hs⟩ := hx.1 _ _ (by rw [ho]; rfl)
      have := reads_row (P := P) h ho (off := off) (n := n) hle hw hs
      have e2 : ((l'.drop off).take n).length = n := by simp; omega
      rw [e2]; exact this
    · cases hl
  · cases hl
theorem withL_inv {e : EK} {jv : JV} {K : List e.T → Option R} (h : withL e jv st K = some r) : ∃ l, listJ e jv st = some l ∧ K l = some r := by
  unfold withL at h; split at h
  · rename_i l hl; exact ⟨l, hl, h⟩
  · cases h
theorem withM_ok (h : Rep S w0 E st a w) {e : EK} {jv : JV} {v : Value} {K : List e.T → Option R} (hw : 1 ≤ e.w) (hv : RV E st.H jv v) (hK : withM e jv st K = some r) : ∃ l us, K l = some r ∧ EKL E e l us ∧ Reads P w v l.length e.w us := by
  have old : withL e jv st K = some r → ∃ l us, K l = some r ∧ EKL E e l us ∧ Reads P w v l.length e.w us := fun hK => by
    obtain ⟨l, h1, h2⟩ := withL_inv hK
    obtain ⟨us, h3, h4⟩ := listJ_ok (P := P) h hw hv h1
    exact ⟨l, us, h2, h3, h4⟩
  unfold withM at hK
  split at hK
  · rename_i id off n
    split at hK
    · rename_i k N l rw ho
      split at hK
      · rename_i hle
        split at hK
        · rename_i l' hc
          obtain ⟨rfl, hl⟩ := castL_inv hc
          have hl := eq_of_heq hl; subst hl
          obtain ⟨us, hcs, hcell⟩ := h.look ho
          obtain ⟨_, x, e1, _, _, hx⟩ := hv; cases e1
          obtain ⟨hml, cap, hcap, rfl⟩ := hx (by rw [ho]; rfl)
          obtain ⟨a1, b1, rfl, hr, hb⟩ := hcs
          simp only [RCs] at hb; subst hb
          simp only [RC] at hr
          obtain ⟨rfl, hlen, hin⟩ := hr
          have hll : ((l.drop off).take n).length = n := by simp; omega
          refine ⟨_, ((l.drop off).take n).map (Value.int k), hK, EKL_int.2 ⟨rfl, fun y hy => hin y (List.mem_of_mem_drop (List.mem_of_mem_take hy))⟩, ?_⟩
          rw [hll]
          refine reads_cells (by rw [List.length_map, hll]; exact (Nat.mul_one _).symm) fun j y hj => ?_
          have : (List.map (Value.int k) l ++ [])[off + j]? = some y := by
            rw [List.append_nil, List.getElem?_map]
            rw [List.getElem?_map, List.getElem?_take] at hj
            split at hj
            · rw [List.getElem?_drop] at hj; exact hj
            · simp at hj
          have := hcell (off + j) y this
          rw [← Nat.add_assoc] at this
          exact this
        · cases hK
      · cases hK
    · exact old hK
  · exact old hK
end Go.Eng

namespace Go.Eng
variable {R : Type} {P : Program} {S : Sc} {w0 w : World} {E : En} {st : St} {a : Act} {r : R} {H : Nat → Option JObj} {nx : Nat}
theorem RepH.add {w' : World} (h : RepH S w0 E H nx w) (p : Place) (o : JObj) (ho : o.rw = true) (us : List Value) (hk : Cont E H o us) (hos : w'.os = w.os) (ht : w'.tape = w.tape) (hout : w'.output = w.output)
    (hsz : w'.heap.size = w.heap.size) (hsame : ∀ k, (p.room = 0 ∨ k ≠ p.blk) → w'.heap[k]? = w.heap[k]?) (hb : us = [] ∧ p.room = 0 ∨ Blk w' E p true us)
    (hfree : 0 < p.room → (S p.blk ∨ w0.heap.size ≤ p.blk) ∧ (∀ esc, E.im esc p.blk = none) ∧ ∀ id x, H id = some x → x.rw = true → 0 < (E.φ id).room → (E.φ id).blk ≠ p.blk) :
    RepH S w0 (E.add p) (upd H nx (some o)) (nx + 1) w' := by
  have G := goes_add h p (some o)
  have hφ : (E.add p).φ nx = p := by rw [← h.nx_]; exact upd_same _ _ _
  have hφo : ∀ id, id ≠ nx → (E.add p).φ id = E.φ id := fun id hi => by rw [← h.nx_] at hi; exact upd_ne _ _ hi
  have hne : ∀ k, (0 < p.room → k ≠ p.blk) → w'.heap[k]? = w.heap[k]? := fun k hk => by
    rcases Nat.eq_zero_or_pos p.room with h0 | h0
    · exact hsame k (.inl h0)
    · exact hsame k (.inr (hk h0))
  refine ⟨?_, ?_, ?_, ?_, ?_, h.imS, h.imSub, ?_, by simp [En.add, h.nx_], Nat.le_succ_of_le h.mle, fun i hi => (hφo i (by have := h.mle; omega)).trans (h.pin i hi), h.im0, h.shape_go G⟩
  · exact h.keeps.same hos ht hout (by omega) fun k hk hn => hne k fun h0 e => by
      subst e
      rcases (hfree h0).1 with h1 | h1
      · exact hn h1
      · omega
  · intro id x hx
    by_cases e : id = nx
    · subst e
      rw [upd_same] at hx; cases hx
      refine ObjOK_iff.2 ⟨us, ?_, ?_⟩
      · have := hk.ren G; rwa [JObj.ren_some] at this
      · rw [hφ, ho]
        rcases hb with hb | hb
        · exact .inl hb
        · exact .inr hb
    · rw [upd_ne _ _ e] at hx
      have := (h.obj id x hx).go (w' := w') G (i := id) (hφo id e) (fun hr hp => hne _ fun h0 => (hfree h0).2.2 id x hx hr hp)
      rwa [JObj.ren_some] at this
  · intro id x hx hr hp
    by_cases e : id = nx
    · subst e; rw [hφ] at hp ⊢; exact ⟨(hfree hp).1, (hfree hp).2.1⟩
    · rw [upd_ne _ _ e] at hx; rw [hφo id e] at hp ⊢
      exact h.own id x hx hr hp
  · intro i j x y hx hy hrx hry hpx hpy he
    by_cases ei : i = nx <;> by_cases ej : j = nx
    · rw [ei, ej]
    · subst ei; rw [upd_ne _ _ ej] at hy; rw [hφo j ej] at hpy he; rw [hφ] at he hpx
      exact absurd he.symm ((hfree hpx).2.2 j y hy hry hpy)
    · subst ej; rw [upd_ne _ _ ei] at hx; rw [hφo i ei] at hpx he; rw [hφ] at he hpy
      exact absurd he ((hfree hpy).2.2 i x hx hrx hpx)
    · rw [upd_ne _ _ ei] at hx; rw [upd_ne _ _ ej] at hy; rw [hφo i ei] at hpx he; rw [hφo j ej] at hpy he
      exact h.apart i j x y hx hy hrx hry hpx hpy he
  · intro esc b x hx
    obtain ⟨t', fz, hw⟩ := h.imOK esc b x hx
    refine ⟨t', fz, ?_⟩
    rw [hne b fun h0 e => ?_]; · exact hw
    subst e; have hx' : E.im esc p.blk = some x := hx; rw [(hfree h0).2.1 esc] at hx'; cases hx'
  · intro id hid
    rw [upd_ne _ _ (by omega)]; exact h.fresh id (by omega)
theorem tail_cases {o : Option TypeId} (h : tailJ P o = true) : o = none ∨ ∃ t d, o = some t ∧ P.underlying t = some d ∧ ∀ k, d ≠ .int k := by
  cases o with
  | none => exact .inl rfl
  | some t =>
    unfold tailJ at h
    simp only at h
    cases hu : P.underlying t with
    | none => rw [hu] at h; cases h
    | some d => rw [hu] at h; exact .inr ⟨t, d, rfl, hu, fun k e => by subst e; simp at h⟩
def StoreAt (P : Program) (base : Option Addr) (k : Nat) (vs : List Value) (w w' : World) : Prop :=
  match base with
  | some p => (storeCells (p.add k) vs).run P w = .ok () w'
  | none => w' = w
theorem append_room {argTypes : Array TypeId} {t el ty : TypeId} {x y : Value} {base : Option Addr} {n cap m s : Nat} {vs : List Value} (h0 : argTypes[0]? = some t) (hu : P.underlying t = some (.slice el)) (hs : 1 ≤ sizeJ P el) (e1 : sizeJ P el = s)
    (ht : tailJ P argTypes[1]? = true) (hx : x = .slice base n cap) (hy : Reads P w y m s vs) (hroom : n + m ≤ cap) {w' : World}
    (hst : StoreAt P base (n * s) vs w w') : (Builtin.append_ argTypes ty #[x, y]).run P w = .ok (.slice base (n + m) cap) w' := by
  subst hx e1
  rcases tail_cases ht with h1 | ⟨t2, d, h1, hu2, hd⟩
  · simp only [Builtin.append_, h0, h1, List.getElem?_toArray, List.getElem?_cons_zero, List.getElem?_cons_succ, Sem.run_bind, run_underlying hu, Sem.run_pure, Result.andThen_ok, size_pos hs, Bool.false_eq_true, if_false, hy.1 w, hroom, if_true, Bool.not_false, hy.2 w rfl]
    cases base with
    | none => simp only [StoreAt] at hst ⊢; subst hst; rfl
    | some p => simp only [StoreAt] at hst ⊢; rw [Sem.run_bind, hst]; rfl
  · have hm : (match d with | .int _ => true | _ => false) = false := by cases d <;> first | rfl | exact (hd _ rfl).elim
    simp only [Builtin.append_, h0, h1, List.getElem?_toArray, List.getElem?_cons_zero, List.getElem?_cons_succ, Sem.run_bind, run_underlying hu, run_underlying hu2, hm, Sem.run_pure, Result.andThen_ok, size_pos hs, Bool.false_eq_true, if_false, hy.1 w, hroom, if_true, Bool.not_false, hy.2 w rfl]
    cases base with
    | none => simp only [StoreAt] at hst ⊢; subst hst; rfl
    | some p => simp only [StoreAt] at hst ⊢; rw [Sem.run_bind, hst]; rfl
theorem append_grow {argTypes : Array TypeId} {t el ty : TypeId} {x y : Value} {base : Option Addr} {n cap m s : Nat} {us vs : List Value} {i : TypeInfo} {zv : Value} (h0 : argTypes[0]? = some t) (hu : P.underlying t = some (.slice el)) (hs : 1 ≤ sizeJ P el) (e1 : sizeJ P el = s)
    (ht : tailJ P argTypes[1]? = true) (hx : x = .slice base n cap) (hxr : Reads P w x n s us) (hy : Reads P w y m s vs) (hroom : cap < n + m) (hi : P.info? el = some i) (hz : i.zero = some zv) (hb1 : 1 ≤ i.bytes) (hb : (n + m) * i.bytes ≤ room) :
    (Builtin.append_ argTypes ty #[x, y]).run P w = .ok (.slice (some ⟨w.heap.size, 0, none⟩) (n + m) (grownCap w (n + m) cap el))
      (w.drew.alloc (.cells (us.toArray ++ vs.toArray ++ Builtin.zeroCells zv.cells (grownCap w (n + m) cap el - (n + m))) el)) := by
  subst hx e1
  have hfit := growslice_fits hroom hb
  have h48 : ¬ Builtin.nextslicecap (n + m) cap * i.bytes > 2 ^ 48 := by omega
  have hn63 : ¬ (((n + m : Nat) : Int) > IntKind.i64.max ∧ (False ∨ i.bytes = 0)) := by rintro ⟨_, h⟩; rcases h with h | h; exact h; omega
  have hd : w.drew.heap = w.heap := rfl
  have hch : (choose (.appendCap (n + m) cap el)).run P w = .ok (grownCap w (n + m) cap el) w.drew := by rw [run_choose]; rfl
  have hxr' := hxr.2 w.drew rfl
  have hy' := hy.2 w.drew rfl
  rcases tail_cases ht with h1 | ⟨t2, d, h1, hu2, hd⟩
  · simp only [Builtin.append_, h0, h1, List.getElem?_toArray, List.getElem?_cons_zero, List.getElem?_cons_succ, Sem.run_bind, run_underlying hu, Sem.run_pure, Result.andThen_ok, size_pos hs, Bool.false_eq_true, if_false, hy.1 w, if_neg (show ¬ n + m ≤ cap by omega), typeInfo, run_program, hi, Sem.run_pure, Sem.run_ite, hn63, h48, hch, run_askRoom, hxr', hy', Bool.not_false, if_true, zeroValue, hz, newRow, run_newObj]
    rfl
  · have hm : (match d with | .int _ => true | _ => false) = false := by cases d <;> first | rfl | exact (hd _ rfl).elim
    simp only [Builtin.append_, h0, h1, List.getElem?_toArray, List.getElem?_cons_zero, List.getElem?_cons_succ, Sem.run_bind, run_underlying hu, run_underlying hu2, hm, Result.andThen_ok, size_pos hs, Bool.false_eq_true, if_false, hy.1 w, if_neg (show ¬ n + m ≤ cap by omega), typeInfo, run_program, hi, Sem.run_pure, Sem.run_ite, hn63, h48, hch, run_askRoom, hxr', hy', Bool.not_false, if_true, zeroValue, hz, newRow, run_newObj]
    rfl
theorem grown_ok (h : Rep S w0 E st a w) {e : EK} {l : List e.T} {us : List Value} (hl : EKL E e l us) (hml : l.length ≤ ML) (hw : 1 ≤ e.w) {zv : Value} (hz : zv.cells.size = e.w) {n m cap : Nat} (hn : l.length = n + m) {el : TypeId} {xs ys : List Value} (hxy : us = xs ++ ys) {K : K1 R} (hK : K (.full st.nx) (st.new (.row e l true)) = some r) :
    Out K r S w0 st a (.slice (some ⟨w.heap.size, 0, none⟩) (n + m) (grownCap w (n + m) cap el)) (w.drew.alloc (.cells (xs.toArray ++ ys.toArray ++ Builtin.zeroCells zv.cells (grownCap w (n + m) cap el - (n + m))) el)) := by
  have hd : Rep S w0 E st a w.drew := { h.toRepH.heap (w' := w.drew) rfl rfl rfl rfl with env := h.env, defers := h.defers }
  have hge := grownCap_ge w (n + m) cap el
  have hlen := EKL_len hl
  have hsz : (xs.toArray ++ ys.toArray ++ Builtin.zeroCells zv.cells (grownCap w (n + m) cap el - (n + m))).size = grownCap w (n + m) cap el * e.w := by
    have : xs.length + ys.length = us.length := by rw [hxy, List.length_append]
    simp only [Array.size_append, List.size_toArray, size_zeroCells, hz]
    rw [this, hlen, hn, ← Nat.add_mul]
    congr 1; omega
  have hfull := full_new (l := l) hd (m := grownCap w (n + m) cap el) (n := grownCap w (n + m) cap el * e.w) (by omega) (Nat.le_refl _)
  have hle : us.length ≤ grownCap w (n + m) cap el * e.w := by rw [hlen]; exact Nat.mul_le_mul_right _ (by omega)
  have := made_ok (r := r) hd (.row e l true) rfl us (xs.toArray ++ ys.toArray ++ Builtin.zeroCells zv.cells (grownCap w (n + m) cap el - (n + m))) el 0 0 (.inl (Nat.le_refl _))
    (by
      simp only [Array.toList_append]
      rw [hxy, List.take_left' (by simp)]) (by rw [hsz]; exact hle) ⟨hl, hml⟩ (K := K) (jv := .full st.nx) (v := .slice (some ⟨w.heap.size, 0, none⟩) (n + m) (grownCap w (n + m) cap el))
    (by rw [hsz]; rw [hn] at hfull; exact hfull) hK
  exact this
theorem ml_of {n b : Nat} (h : n * b ≤ room) (hb : 1 ≤ b) : n ≤ ML := by
  have h1 : n * 1 ≤ n * b := Nat.mul_le_mul_left _ hb
  unfold room at h; unfold ML; omega
theorem slOK_nil {p : Place} {k : Nat} (h : p.room = 0) : SlOK p k 0 0 0 (.slice none 0 0) := ⟨none, 0, rfl, Nat.le_refl _, Nat.le_refl _, by simp, .inl rfl⟩
theorem append_full {t ty el : TypeId} {argTypes : Array TypeId} {x y : Value} {K : K1 R} {e' : EK} {l0 m : List e'.T} {id : Nat} {vs : List Value} {i : TypeInfo} {zv : Value} (h : Rep S w0 E st a w) (h0 : argTypes[0]? = some t)
    (hu : P.underlying t = some (.slice el)) (c1 : sizeJ P el = e'.w) (c2 : 1 ≤ e'.w) (c4 : 1 ≤ i.bytes) (ht : tailJ P argTypes[1]? = true) (hi : P.info? el = some i) (hzv : i.zero = some zv) (hzs : zv.cells.size = e'.w)
    (hvs : EKL E e' m vs) (hyr : Reads P w y m.length e'.w vs) (ho : st.H id = some (.row e' l0 true)) (hb : (l0.length + m.length) * i.bytes ≤ room) (hx : RV E st.H (.full id) x)
    (hK : K (.full st.nx) ((st.kill id).new (.row e' (l0 ++ m) true)) = some r) : ∃ v w', (Builtin.append_ argTypes ty #[x, y]).run P w = .ok v w' ∧ Out K r S w0 st a v w' := by
  obtain ⟨hn, x', ex, _, hx'⟩ := hx; cases ex
  have hsl := hx' _ _ (by rw [ho]; rfl)
  obtain ⟨base, cap, rfl, hle, _, hroom, hbase⟩ := hsl
  obtain ⟨us, hcont, hblk⟩ := ObjOK_iff.1 (h.obj id _ ho)
  have hlen := EKL_len hcont.1
  have hxr := reads_row (P := P) h ho (off := 0) (n := l0.length) (by omega) c2 ⟨base, cap, rfl, hle, by omega, hroom, hbase⟩
  obtain ⟨us', hus', hxr⟩ := hxr
  simp only [List.drop_zero, List.take_length] at hus'
  by_cases hfit : l0.length + m.length ≤ cap
  · -- in place
    have hkill := h.toRepH.kill id
    have hvl := EKL_len hvs
    simp only [Nat.zero_add] at hroom
    rcases Nat.eq_zero_or_pos (E.φ id).room with hr0 | hr0
    · -- no room: all is empty
      have hcap0 : cap = 0 := by
        rcases Nat.eq_zero_or_pos cap with h' | h'
        · exact h'
        · exfalso
          have := Nat.mul_le_mul h' c2
          omega
      have el0 : l0 = [] := List.eq_nil_of_length_eq_zero (by omega)
      have em : m = [] := List.eq_nil_of_length_eq_zero (by omega)
      subst el0 em hcap0
      have e2 : vs = [] := by simpa [EKL] using hvs
      subst e2
      have hR := hkill.add (w' := w) (E.φ id) (.row e' ([] ++ []) true) rfl [] (by simp [Cont, EKL, ML]) rfl rfl rfl rfl (fun _ _ => rfl) (.inl ⟨rfl, hr0⟩) (fun h => absurd h (by omega))
      have hst : StoreAt P base (0 * e'.w) [] w w := by cases base <;> rfl
      refine ⟨_, w, append_room (base := base) (n := 0) (cap := 0) (s := e'.w) h0 hu (by omega) c1 ht rfl hyr (Nat.le_refl _) hst, E.add (E.φ id), .full st.nx, _, hK, rfl, ?_, ?_⟩
      · refine ⟨new_nx h _, _, rfl, rfl, fun e'' n' hs => ?_⟩
        simp only [St.new, St.kill, upd_same] at hs; cases hs
        rw [new_φ h]; exact ⟨base, 0, rfl, Nat.le_refl _, Nat.le_refl _, by simp, .inl rfl⟩
      · exact (h.step (goes_kill id) hkill).step (goes_add hkill _ _) hR
    · -- room: the block is written on
      unfold Blk at hblk
      rcases hblk with ⟨_, h'⟩ | hblk
      · omega
      rw [if_pos (show (JObj.row e' l0 true).rw = true from rfl)] at hblk
      obtain ⟨c, ct, lo, hi', hg, hfz, hsz, hlu, hu'⟩ := hblk
      have hbl := lt_of_get hg
      have hown := h.own id _ ho rfl hr0
      have hget : ∀ j, j < us.length → us[j]? = c.toList[(E.φ id).off + j]? := fun j hj => by
        have this : ((c.toList.drop (E.φ id).off).take us.length)[j]? = us[j]? := congrArg (fun l : List Value => l[j]?) hu'
        rw [List.getElem?_take, if_pos hj, List.getElem?_drop] at this
        exact this.symm
      have hfitw : us.length + vs.length ≤ (E.φ id).room := by
        rw [hlen, hvl, ← Nat.add_mul]; exact Nat.le_trans (Nat.mul_le_mul_right _ hfit) hroom
      have hones := EKL_ones hvs
      have hsz' : (spliceA c ((E.φ id).off + us.length) vs).size = c.size := by
        simp only [spliceA, List.size_toArray]; rw [splice_len (by simp; omega)]; simp
      have hR := hkill.add (w' := setBlk w (E.φ id).blk (.cells (spliceA c ((E.φ id).off + us.length) vs) ct (lo, hi'))) (E.φ id) (.row e' (l0 ++ m) true) rfl (us ++ vs) ⟨EKL_append hcont.1 hvs, by rw [List.length_append]; exact ml_of hb c4⟩ rfl rfl rfl
        (setBlk_size _ _) (fun k hk => by
          rw [setBlk_get _ _ hbl, if_neg (by rcases hk with hk | hk; exact absurd hk (by omega); exact hk)])
        (.inr (by
          unfold Blk; rw [if_pos rfl]
          refine ⟨_, ct, lo, hi', by rw [setBlk_get _ _ hbl, if_pos rfl], by rw [hsz']; exact hfz, by rw [hsz']; exact hsz, by rw [List.length_append]; exact hfitw, ?_⟩
          apply List.ext_getElem?
          intro j
          rw [List.getElem?_take, List.getElem?_drop]
          simp only [spliceA]
          rw [splice_get (by simp; omega)]
          by_cases hj : j < (us ++ vs).length
          · rw [if_pos hj]
            rw [List.length_append] at hj
            by_cases hj1 : j < us.length
            · rw [if_pos (by omega), List.getElem?_append_left hj1, hget j hj1]
            · rw [if_neg (by omega), if_pos (by omega), List.getElem?_append_right (by omega)]; congr 1; omega
          · rw [if_neg hj, List.getElem?_eq_none (by omega)]))
        (fun _ => ⟨hown.1, hown.2, fun i x hi hrw hri he => by
          by_cases e1 : i = id
          · subst e1; rw [upd_same] at hi; cases hi
          · rw [upd_ne _ _ e1] at hi; exact e1 (h.apart i id x _ hi ho hrw rfl hri hr0 he)⟩)
      have hst : StoreAt P base (l0.length * e'.w) vs w (setBlk w (E.φ id).blk (.cells (spliceA c ((E.φ id).off + us.length) vs) ct (lo, hi'))) := by
        have hempty : cap = 0 → setBlk w (E.φ id).blk (.cells (spliceA c ((E.φ id).off + us.length) vs) ct (lo, hi')) = w := fun h0 => by
          have : vs = [] := List.eq_nil_of_length_eq_zero (by rw [hvl, show m.length = 0 by omega]; simp)
          rw [this, show spliceA c ((E.φ id).off + us.length) [] = c by simp [spliceA, splice]]
          exact setBlk_self hg
        cases base with
        | none =>
          rcases hbase with hbase | hbase
          · exact hempty hbase
          · cases hbase
        | some p =>
          rcases hbase with hbase | hbase
          · have : vs = [] := List.eq_nil_of_length_eq_zero (by rw [hvl, show m.length = 0 by omega]; simp)
            rw [hempty hbase, this]; rfl
          · simp only [Option.some.injEq] at hbase
            subst hbase
            show (storeCells ((⟨(E.φ id).blk, (E.φ id).off + 0 * e'.w, none⟩ : Addr).add (l0.length * e'.w)) vs).run P w = _
            rw [addr_add]
            have := store_run (P := P) (b := (E.φ id).blk) (o := (E.φ id).off + 0 * e'.w + l0.length * e'.w) vs 0 w c hg hfz (by rw [← hlen]; omega) hones
            have e9 : (E.φ id).off + 0 * e'.w + l0.length * e'.w + 0 = (E.φ id).off + us.length := by rw [hlen, Nat.zero_mul]; omega
            rw [this, e9]
      refine ⟨_, _, append_room (base := base) (n := l0.length) (cap := cap) (s := e'.w) h0 hu (by omega) c1 ht rfl hyr hfit hst, _, .full st.nx, _, hK, rfl, ?_, (h.step (goes_kill id) hkill).step (goes_add hkill _ _) hR⟩
      refine ⟨new_nx h _, _, rfl, rfl, fun e'' n' hs => ?_⟩
      simp only [St.new, St.kill, upd_same] at hs; cases hs
      rw [new_φ h]
      exact ⟨base, cap, by rw [List.length_append], by rw [List.length_append]; exact hfit, by rw [List.length_append]; omega, by simpa using hroom, hbase⟩
  · have hr := append_grow (ty := ty) (w := w) (base := base) (n := l0.length) (cap := cap) (us := us') h0 hu (by omega) c1 ht rfl hxr hyr (by omega) hi hzv c4 hb
    have hkill : Rep S w0 E (st.kill id) a w := h.step (goes_kill id) (h.toRepH.kill id)
    refine ⟨_, _, hr, ?_⟩
    have := grown_ok (r := r) hkill (l := l0 ++ m) (EKL_append hus' hvs) (by rw [List.length_append]; exact ml_of hb c4) c2 hzs (n := l0.length) (m := m.length) (cap := cap) (el := el) (by simp) rfl (K := K) hK
    obtain ⟨E', jv, st', q1, q2, q3, q4⟩ := this
    exact ⟨E', jv, st', q1, q2, q3, q4⟩
theorem Rep.part (h : Rep S w0 E st a w) {id off n : Nat} {e : EK} {l : List e.T} (ho : st.H id = some (.row e l true)) (hn : off + n ≤ l.length) :
    Rep S w0 (E.add ⟨(E.φ id).blk, (E.φ id).off + off * e.w, (E.φ id).room - off * e.w⟩) ((st.kill id).new (.row e ((l.drop off).take n) true)) a w := by
  have hkill := h.toRepH.kill id
  obtain ⟨us, hcont, hblk⟩ := ObjOK_iff.1 (h.obj id _ ho)
  have hlen := EKL_len hcont.1
  have hp := EKL_take n (EKL_drop off hcont.1)
  have hlen' := EKL_len hp
  have hln : ((l.drop off).take n).length = n := by rw [List.length_take, List.length_drop]; omega
  have hml : ((l.drop off).take n).length ≤ ML := by have := hcont.2; omega
  have hnw : off * e.w + n * e.w ≤ l.length * e.w := by rw [← Nat.add_mul]; exact Nat.mul_le_mul_right _ hn
  rw [hln] at hlen'
  refine (h.step (goes_kill id) hkill).step (goes_add hkill ⟨(E.φ id).blk, (E.φ id).off + off * e.w, (E.φ id).room - off * e.w⟩ (some (.row e ((l.drop off).take n) true))) (hkill.add (w' := w) _ (.row e ((l.drop off).take n) true) rfl _ ⟨hp, hml⟩ rfl rfl rfl rfl (fun _ _ => rfl) ?_ ?_)
  · rcases hblk with ⟨h1, h2⟩ | hblk
    · left; refine ⟨?_, by simp [h2]⟩
      subst h1; simp
    · right
      unfold Blk at hblk ⊢
      rw [if_pos (show (JObj.row e l true).rw = true from rfl)] at hblk
      rw [if_pos rfl]
      obtain ⟨c, ct, lo, hi', hg, hfz, hsz, hlu, hu'⟩ := hblk
      refine ⟨c, ct, lo, hi', hg, hfz, ?_, ?_, ?_⟩
      · show c.size = (E.φ id).off + off * e.w + ((E.φ id).room - off * e.w); omega
      · show _ ≤ (E.φ id).room - off * e.w; rw [hlen']; omega
      · show (c.toList.drop ((E.φ id).off + off * e.w)).take _ = _
        rw [hlen']
        conv => rhs; rw [← hu']
        rw [List.drop_take, List.take_take, List.drop_drop, Nat.min_eq_left (by omega)]
  · intro hp
    have hr : 0 < (E.φ id).room := by have : 0 < (E.φ id).room - off * e.w := hp; omega
    have hown := h.own id _ ho rfl hr
    exact ⟨hown.1, hown.2, fun i x hi hrw hri he => by
      by_cases e1 : i = id
      · subst e1; rw [upd_same] at hi; cases hi
      · rw [upd_ne _ _ e1] at hi; exact e1 (h.apart i id x _ hi ho hrw rfl hri hr he)⟩
theorem appendJ_ok {t ty : TypeId} {argTypes : Array TypeId} {jx jy : JV} {x y : Value} {K : K1 R} (h : Rep S w0 E st a w) (h0 : argTypes[0]? = some t) (hx : RV E st.H jx x) (hy : RV E st.H jy y) (hK : appendJ P t argTypes[1]? jx jy st K = some r) :
    ∃ v w', (Builtin.append_ argTypes ty #[x, y]).run P w = .ok v w' ∧ Out K r S w0 st a v w' := by
  unfold appendJ at hK
  split at hK
  · rename_i el hu
    split at hK
    · rename_i e z he hz
      cases hc : (Nat.beq (sizeJ P el) e.w && Nat.ble 1 e.w && Nat.beq (wids z) e.w && Nat.ble 1 (bytesJ P el) && tailJ P argTypes[1]?) with
      | false => rw [hc] at hK; cases hK
      | true =>
        rw [hc] at hK; simp only [cond_true] at hK
        simp only [Bool.and_eq_true] at hc
        obtain ⟨⟨⟨⟨c1, c2⟩, c3⟩, c4⟩, ht⟩ := hc
        have c1 : sizeJ P el = e.w := Nat.eq_of_beq_eq_true c1
        have c2 : 1 ≤ e.w := Nat.le_of_ble_eq_true c2
        have c3 : wids z = e.w := Nat.eq_of_beq_eq_true c3
        have c4 : 1 ≤ bytesJ P el := Nat.le_of_ble_eq_true c4
        obtain ⟨i, zv, hi, hzv, hzr⟩ := zeroJ_ok hz
        have hzs : zv.cells.size = e.w := by have := RCs_len (hzr E st.H); rw [c3] at this; simpa using this
        have hby : bytesJ P el = i.bytes := by simp [bytesJ, Program.bytesOf, hi]
        rw [hby] at c4 hK
        have hm := withM_ok (P := P) h c2 hy hK
        clear hK
        obtain ⟨m, vs, hK, hvs, hyr⟩ := hm
        split at hK
        · -- onto nil
          cases hx
          split at hK
          · rename_i hb
            by_cases hm0 : m.length = 0
            · have e1 : m = [] := List.eq_nil_of_length_eq_zero hm0
              subst e1
              have e2 : vs = [] := by simpa [EKL] using hvs
              subst e2
              have hR := h.toRepH.add (w' := w) ⟨0, 0, 0⟩ (.row e [] true) rfl [] ⟨rfl, Nat.zero_le _⟩ rfl rfl rfl rfl (fun _ _ => rfl) (.inl ⟨rfl, rfl⟩) (fun h => absurd h (Nat.lt_irrefl _))
              refine ⟨_, w, append_room (base := none) (n := 0) (cap := 0) (s := e.w) h0 hu (by omega) c1 ht rfl hyr (Nat.le_refl _) rfl, _, .full st.nx, st.new (.row e [] true), hK, rfl, ?_, h.step (goes_add h.toRepH _ _) hR⟩
              refine ⟨new_nx h _, _, rfl, rfl, fun e' n' hs => ?_⟩
              simp only [St.new, upd_same] at hs; cases hs
              rw [new_φ h]; exact slOK_nil rfl
            · have hr := append_grow (ty := ty) (w := w) (base := none) (n := 0) (cap := 0) (us := []) h0 hu (by omega) c1 ht rfl reads_none hyr (by omega) hi hzv c4 (by simpa using hb)
              refine ⟨_, _, hr, ?_⟩
              exact grown_ok h (l := m) hvs (ml_of hb c4) c2 hzs (by omega) (by simp) hK
          · cases hK
        · rename_i id
          split at hK
          · rename_i e' l0 ho
            split at hK
            · rename_i l hl
              obtain ⟨rfl, hl⟩ := castL_inv hl
              have hl := eq_of_heq hl; subst hl
              split at hK
              · rename_i hb
                exact append_full h h0 hu c1 c2 c4 ht hi hzv hzs hvs hyr ho hb hx hK
              · cases hK
            · cases hK
          · cases hK
        · rename_i id off n
          split at hK
          · rename_i e' l0 ho
            split at hK
            · rename_i l hl
              obtain ⟨rfl, hl⟩ := castL_inv hl
              have hl := eq_of_heq hl; subst hl
              split at hK
              · rename_i hb
                have h1 : off + n ≤ l0.length := by
                  obtain ⟨_, x', _, _, hx'⟩ := hx
                  exact (hx'.1 _ _ (by rw [ho]; rfl)).1
                have hln : ((l0.drop off).take n).length = n := by rw [List.length_take, List.length_drop]; omega
                have hp := h.part ho h1
                have hvs' : EKL (E.add ⟨(E.φ id).blk, (E.φ id).off + off * e'.w, (E.φ id).room - off * e'.w⟩) e' m vs := EKL.mono (E := E) (E' := E.add ⟨(E.φ id).blk, (E.φ id).off + off * e'.w, (E.φ id).room - off * e'.w⟩) (fun _ _ _ hx => hx) hvs
                have hx2 : RV (E.add ⟨(E.φ id).blk, (E.φ id).off + off * e'.w, (E.φ id).room - off * e'.w⟩) ((st.kill id).new (.row e' ((l0.drop off).take n) true)).H (.full st.nx) x := by
                  obtain ⟨_, x', ex, ho', hx'⟩ := hx; cases ex
                  obtain ⟨_, base, cap, e1, h2, h3, h4, h5⟩ := hx'.1 _ _ (by rw [ho]; rfl)
                  refine ⟨new_nx h _, _, rfl, ho', fun e'' n' hs => ?_⟩
                  simp only [St.new, St.kill, upd_same] at hs; cases hs
                  rw [new_φ h]
                  exact ⟨base, cap, by rw [hln]; exact e1, by rw [hln]; exact h2, by rw [hln]; omega, by show (0 + cap) * e'.w ≤ (E.φ id).room - off * e'.w; rw [Nat.add_mul] at h4; rw [Nat.zero_add]; omega, by rw [Nat.zero_mul, Nat.add_zero]; exact h5⟩
                exact append_full (st := (st.kill id).new (.row e' ((l0.drop off).take n) true)) (id := st.nx) hp h0 hu c1 c2 c4 ht hi hzv hzs hvs' hyr (by simp [St.new, St.kill, upd_same]) hb hx2 hK
              · cases hK
            · cases hK
          · cases hK
        · cases hK
    · cases hK
  · cases hK
theorem Rep.part_val (h : Rep S w0 E st a w) {id off n : Nat} {e : EK} {l : List e.T} {x : Value} (ho : st.H id = some (.row e l true)) (hx : RV E st.H (.sl id off n) x) :
    off + n ≤ l.length ∧ RV (E.add ⟨(E.φ id).blk, (E.φ id).off + off * e.w, (E.φ id).room - off * e.w⟩) ((st.kill id).new (.row e ((l.drop off).take n) true)).H (.full st.nx) x := by
  obtain ⟨_, x', ex, ho', hx'⟩ := hx; cases ex
  obtain ⟨h1, base, cap, e1, h2, h3, h4, h5⟩ := hx'.1 _ _ (by rw [ho]; rfl)
  have hln : ((l.drop off).take n).length = n := by rw [List.length_take, List.length_drop]; omega
  refine ⟨h1, new_nx h _, _, rfl, ho', fun e'' n' hs => ?_⟩
  simp only [St.new, St.kill, upd_same] at hs; cases hs
  rw [new_φ h]
  exact ⟨base, cap, by rw [hln]; exact e1, by rw [hln]; exact h2, by rw [hln]; omega, by show (0 + cap) * e.w ≤ (E.φ id).room - off * e.w; rw [Nat.add_mul] at h4; rw [Nat.zero_add]; omega, by rw [Nat.zero_mul, Nat.add_zero]; exact h5⟩
theorem Rep.part_goes (h : Rep S w0 E st a w) (id : Nat) (p : Place) (o : JObj) : Goes some E st.H (E.add p) ((st.kill id).new o).H := by
  have g1 : Goes some E st.H E (upd st.H id none) := goes_kill id
  have g2 := goes_add (h.toRepH.kill id) p (some o)
  refine ⟨fun i j hn e => ?_, fun esc b c hc => g2.im _ _ _ (g1.im _ _ _ hc)⟩
  cases e
  obtain ⟨a1, a2, a3⟩ := g1.at_ i i hn rfl
  obtain ⟨b1, b2, b3⟩ := g2.at_ i i a1 rfl
  refine ⟨b1, b2.trans a2, ?_⟩
  rcases b3 with b3 | b3
  · exact .inl b3
  · rcases a3 with a3 | a3
    · exact .inl (b3.trans a3)
    · exact .inr (b3.trans a3)
theorem shrink_ok {ja jv : JV} {x v : Value} (h : Rep S w0 E st a w) (ha : RV E st.H ja x) (hv : RV E st.H jv v) :
    ∃ E', Rep S w0 E' (shrinkJ ja jv st).2 a w ∧ RV E' (shrinkJ ja jv st).2.H ja x ∧ RV E' (shrinkJ ja jv st).2.H (shrinkJ ja jv st).1 v ∧ (shrinkJ ja jv st).2.env = st.env := by
  have triv : ∃ E', Rep S w0 E' (jv, st).2 a w ∧ RV E' (jv, st).2.H ja x ∧ RV E' (jv, st).2.H (jv, st).1 v ∧ (jv, st).2.env = st.env := ⟨E, h, ha, hv, rfl⟩
  unfold shrinkJ
  split
  · split
    · split
      · split
        · rename_i r' _
          cases hb : Nat.beq _ r' with
          | false => exact triv
          | true =>
            simp only [cond_true]
            split
            · rename_i hr
              obtain ⟨h1, h2⟩ := h.part_val hr hv
              refine ⟨_, h.part hr h1, ?_, h2, rfl⟩
              have g : ∀ {p : Place} {o : JObj} {id : Nat}, RV (E.add p) ((st.kill id).new o).H _ x := fun {p o id} => by
                have := RV_ren (h.part_goes id p o) ha
                rw [ren_some] at this; exact this
              exact g
            · exact triv
        · exact triv
      · exact triv
    · exact triv
  · exact triv
theorem storeJ_ok {t : TypeId} {ja jv : JV} {x v : Value} {K : K1 R} (h : Rep S w0 E st a w) (ha : RV E st.H ja x) (hv : RV E st.H jv v) (hK : storeJ P t ja jv st K = some r) :
    ∃ w', (Instr.storeAt t x v).run P w = .ok () w' ∧ Out K r S w0 st a undef w' := by
  unfold storeJ at hK
  obtain ⟨E', h1, h2, h3, h4⟩ := shrink_ok h ha hv
  obtain ⟨w', g1, g2⟩ := store1J_ok h1 h2 h3 hK
  refine ⟨w', g1, ?_⟩
  obtain ⟨E2, jv2, st2, k1, k2, k3, k4⟩ := g2.out
  exact ⟨E2, jv2, st2, k1, k2.trans h4, k3, k4⟩
end Go.Eng

namespace Go.Eng
variable {R : Type} {P : Program} {S : Sc} {w0 w : World} {E : En} {st : St} {a : Act} {r : R} {H : Nat → Option JObj}
theorem len_in {n : Nat} (h : n ≤ ML) : inK .i64 (n : Int) := by
  constructor
  · show (-9223372036854775808 : Int) ≤ _; omega
  · show _ ≤ (9223372036854775807 : Int); unfold ML at h; omega
theorem row_len (h : Rep S w0 E st a w) {id : Nat} {e : EK} {l : List e.T} {rw : Bool} (ho : st.H id = some (.row e l rw)) : l.length ≤ ML := by
  obtain ⟨us, hc, _⟩ := ObjOK_iff.1 (h.obj id _ ho); exact hc.2
theorem lenJ_ok {argTypes : Array TypeId} {ty : TypeId} {jx : JV} {x : Value} {K : K1 R} (h : Rep S w0 E st a w) (hx : RV E st.H jx x) (hK : lenJ P argTypes[0]? jx st K = some r) :
    ∃ v, (Builtin.len_ argTypes ty #[x]).run P w = .ok v w ∧ Out K r S w0 st a v w := by
  unfold lenJ at hK
  split at hK
  · cases hK
  · rename_i t ht
    split at hK
    · rename_i hu
      split at hK
      · obtain ⟨s, e, rfl, hml⟩ := hx; cases e
        have hl := bytes_len (s := s)
        exact ⟨_, by simp only [Builtin.len_, ht, List.getElem?_toArray, List.getElem?_cons_zero, Sem.run_bind, Go.run_underlying hu, Result.andThen_ok, goInt]; rfl, .same h hK (by rw [hl] at hml ⊢; exact int_RV (len_in hml))⟩
      · cases hK
    · rename_i el hu
      split at hK
      · cases hx; exact ⟨_, by simp only [Builtin.len_, ht, List.getElem?_toArray, List.getElem?_cons_zero, Sem.run_bind, Go.run_underlying hu, Result.andThen_ok, goInt]; rfl, .same h hK (int_RV (len_in (Nat.zero_le _)))⟩
      · rename_i id off n
        split at hK
        · rename_i o ho
          obtain ⟨_, y, e1, _, hy⟩ := hx; cases e1
          have hval : n ≤ ML ∧ ∃ base cap, x = .slice base n cap := by
            cases o with
            | box cs rw => obtain ⟨h1, cap, _, h2⟩ := hy.2 (by rw [ho]; rfl); exact ⟨h1, _, _, h2⟩
            | row e l rw =>
              obtain ⟨hle, base, cap, h2, _⟩ := hy.1 _ _ (by rw [ho]; rfl)
              have := row_len h ho
              exact ⟨by omega, _, _, h2⟩
          obtain ⟨hle, base, cap, rfl⟩ := hval
          exact ⟨_, by simp only [Builtin.len_, ht, List.getElem?_toArray, List.getElem?_cons_zero, Sem.run_bind, Go.run_underlying hu, Result.andThen_ok, goInt]; rfl, .same h hK (int_RV (len_in hle))⟩
        · cases hK
      · obtain ⟨hml, base, cap, e1, _⟩ := hx; cases e1
        exact ⟨_, by simp only [Builtin.len_, ht, List.getElem?_toArray, List.getElem?_cons_zero, Sem.run_bind, Go.run_underlying hu, Result.andThen_ok, goInt]; rfl, .same h hK (int_RV (len_in hml))⟩
      · rename_i id
        split at hK
        · rename_i e l rw ho
          obtain ⟨_, y, e1, _, hy⟩ := hx; cases e1
          obtain ⟨base, cap, rfl, _⟩ := hy _ _ (by rw [ho]; rfl)
          exact ⟨_, by simp only [Builtin.len_, ht, List.getElem?_toArray, List.getElem?_cons_zero, Sem.run_bind, Go.run_underlying hu, Result.andThen_ok, goInt]; rfl, .same h hK (int_RV (len_in (row_len h ho)))⟩
        · cases hK
      · cases hK
    · rename_i n el hu
      cases hn : Nat.ble n 9223372036854775807 with
      | false => rw [hn] at hK; cases hK
      | true =>
        rw [hn] at hK
        exact ⟨_, by simp only [Builtin.len_, ht, List.getElem?_toArray, List.getElem?_cons_zero, Sem.run_bind, Go.run_underlying hu, Result.andThen_ok, goInt]; rfl, .same h hK (int_RV (len_in (Nat.le_of_ble_eq_true hn)))⟩
    · cases hK
theorem add_mul_pos {x : Addr} (n : Nat) : (⟨x.block, x.off, none⟩ : Addr).add n = ⟨x.block, x.off + n, none⟩ := addr_add _ _ _
theorem slOK_at {p : Place} {w off n N i : Nat} {v : Value} (h : SlOK p w off n N v) (hi : i < n) : ∃ cap, v = .slice (some ⟨p.blk, p.off + off * w, none⟩) n cap := by
  obtain ⟨base, cap, rfl, h1, _, _, h2⟩ := h
  rcases h2 with h2 | rfl
  · omega
  · exact ⟨cap, rfl⟩
theorem toNat_lt {i : Int} {n : Nat} (h : 0 ≤ i ∧ i < (n : Int)) : i.toNat < n := by omega
theorem run_indexAt {t el : TypeId} {k : IntKind} {i : Int} {b o n cap : Nat} (hu : P.underlying t = some (.slice el)) (hs : 1 ≤ sizeJ P el) (hi : 0 ≤ i ∧ i < (n : Int)) :
    (Instr.indexAt t (.slice (some ⟨b, o, none⟩) n cap) (.int k i)).run P w = .ok (.pointer (some ⟨b, o + i.toNat * sizeJ P el, none⟩)) w := by
  simp only [Instr.indexAt, asIntOf, Sem.run_bind, Sem.run_pure, Result.andThen_ok, run_underlying hu, Sem.run_ite, hi, and_self, if_true, size_pos hs, addr_add]
theorem run_indexArr {t el : TypeId} {k : IntKind} {i : Int} {b o n : Nat} (hu : P.underlying t = some (.array n el)) (hs : (sizeOf el).run P w = .ok (sizeJ P el) w) (hi : 0 ≤ i ∧ i < (n : Int)) :
    (Instr.indexAt t (.pointer (some ⟨b, o, none⟩)) (.int k i)).run P w = .ok (.pointer (some ⟨b, o + i.toNat * sizeJ P el, none⟩)) w := by
  simp only [Instr.indexAt, asIntOf, Sem.run_bind, Sem.run_pure, Result.andThen_ok, run_underlying hu, Instr.sureAddr, Sem.run_ite, hi, and_self, if_true, hs, addr_add]
theorem dropTake {α : Type} (l : List α) (i w : Nat) : (l.drop i).take w = (l.drop i).take w := rfl
theorem ImAt.sub {esc : Bool} {b o : Nat} {us : List Value} (h : ImAt E esc b o us) (i n : Nat) : ImAt E esc b (o + i) ((us.drop i).take n) := by
  obtain ⟨c, hc, hu⟩ := h
  refine ⟨c, hc, ?_⟩
  apply List.ext_getElem?
  intro j
  rw [List.getElem?_take, List.getElem?_take]
  by_cases hj : j < ((us.drop i).take n).length
  · rw [if_pos hj]
    have hj' := hj
    rw [List.length_take, List.length_drop] at hj
    rw [if_pos (by omega), List.getElem?_drop, List.getElem?_drop]
    have : ((c.toList.drop o).take us.length)[i + j]? = us[i + j]? := by rw [hu]
    rw [List.getElem?_take, if_pos (by omega), List.getElem?_drop] at this
    rw [← this]; congr 1; omega
  · rw [if_neg hj]
    rw [List.length_take, List.length_drop] at hj
    by_cases h1 : j < n
    · rw [if_pos h1, List.getElem?_drop, List.getElem?_eq_none (by omega)]
    · rw [if_neg h1]
theorem arrOf_und {n : Nat} {t : TypeId} {k : IntKind} (h : arrOf P n t = some k) : ∃ d, P.underlying t = some d := by
  cases n with
  | zero => simp [arrOf] at h
  | succ n =>
    unfold arrOf at h
    cases hu : P.underlying t with
    | none => rw [hu] at h; cases h
    | some d => exact ⟨d, rfl⟩
theorem indexAddrJ_ok {t : TypeId} {jx ji : JV} {x iv : Value} {K : K1 R} (h : Rep S w0 E st a w) (hx : RV E st.H jx x) (hi : RV E st.H ji iv) (hK : indexAddrJ P t jx ji st K = some r) :
    ∃ v, (Instr.indexAt t x iv).run P w = .ok v w ∧ Out K r S w0 st a v w := by
  unfold indexAddrJ at hK
  split at hK
  · rename_i k i
    obtain ⟨rfl, hik⟩ := RV_int hi
    split at hK
    · rename_i el hu
      split at hK
      · rename_i id
        split at hK
        · rename_i e l rw ho
          cases hc : (Nat.beq (sizeJ P el) e.w && Nat.ble 1 e.w) with
          | false => rw [hc] at hK; cases hK
          | true =>
            rw [hc] at hK; simp only [cond_true] at hK
            simp only [Bool.and_eq_true] at hc
            have c1 : sizeJ P el = e.w := Nat.eq_of_beq_eq_true hc.1
            have c2 : 1 ≤ e.w := Nat.le_of_ble_eq_true hc.2
            split at hK
            · rename_i hib
              obtain ⟨hn, y, e1, _, hy⟩ := hx; cases e1
              obtain ⟨cap, rfl⟩ := slOK_at (hy _ _ (by rw [ho]; rfl)) (toNat_lt hib)
              refine ⟨_, run_indexAt hu (by omega) hib, .same h hK ⟨hn, _, rfl, rfl, fun e' n' hs => ?_⟩⟩
              rw [ho] at hs; cases hs
              rw [c1]; simp
            · cases hK
        · cases hK
      · rename_i id off n
        split at hK
        · rename_i e l rw ho
          cases hc : (Nat.beq (sizeJ P el) e.w && Nat.ble 1 e.w) with
          | false => rw [hc] at hK; cases hK
          | true =>
            rw [hc] at hK; simp only [cond_true] at hK
            simp only [Bool.and_eq_true] at hc
            have c1 : sizeJ P el = e.w := Nat.eq_of_beq_eq_true hc.1
            have c2 : 1 ≤ e.w := Nat.le_of_ble_eq_true hc.2
            split at hK
            · rename_i hib
              obtain ⟨hn, y, e1, _, hy⟩ := hx; cases e1
              obtain ⟨cap, rfl⟩ := slOK_at (hy.1 _ _ (by rw [ho]; rfl)).2 (toNat_lt hib)
              refine ⟨_, run_indexAt hu (by omega) hib, .same h hK ⟨hn, _, rfl, rfl, fun e' n' hs => ?_⟩⟩
              rw [ho] at hs; cases hs
              rw [c1, Nat.add_mul, Nat.add_zero, Nat.add_assoc]
            · cases hK
        · rename_i cs rw ho
          cases hc : Nat.beq (sizeJ P el) 1 with
          | false => rw [hc] at hK; cases hK
          | true =>
            rw [hc] at hK; simp only [cond_true] at hK
            have c1 : sizeJ P el = 1 := Nat.eq_of_beq_eq_true hc
            obtain ⟨hn, y, e1, _, hy⟩ := hx; cases e1
            obtain ⟨_, cap, _, rfl⟩ := hy.2 (by rw [ho]; rfl)
            cases hint : isIntJ P el with
            | true =>
              rw [hint, cond_true] at hK
              split at hK
              · rename_i hib
                have hpick : ∀ (f p : Nat), pickD id off i.toNat st K p f = some r → K (.pdyn id off i.toNat) st = some r := fun f => by
                  induction f with
                  | zero => intro k h; cases h
                  | succ f ih =>
                    intro k h
                    unfold pickD at h
                    split at h
                    · rename_i hi; rw [hi]; exact h
                    · exact ih _ h
                refine ⟨_, run_indexAt hu (by omega) hib, .same h (hpick _ _ hK) ⟨hn, _, rfl, rfl, fun _ => ?_⟩⟩
                rw [c1, Nat.mul_one]
              · cases hK
            | false =>
              rw [hint, cond_false] at hK
              split at hK
              · rename_i hib
                have hpick : ∀ (f k : Nat), pickB id 0 i st K k f = some r → K (.ptr id (0 + i.toNat)) st = some r := fun f => by
                  induction f with
                  | zero => intro k h; cases h
                  | succ f ih =>
                    intro k h
                    unfold pickB at h
                    split at h
                    · rename_i hi; rw [hi]; simpa using h
                    · exact ih _ h
                obtain ⟨rfl, hib⟩ := hib
                refine ⟨_, run_indexAt hu (by omega) hib, .same h (hpick _ _ hK) ⟨hn, _, rfl, rfl, fun _ => ?_⟩⟩
                rw [c1, Nat.mul_one, Nat.add_assoc]
              · cases hK
        · cases hK
      · rename_i esc e l
        cases hc : (Nat.beq (sizeJ P el) e.w && Nat.ble 1 e.w) with
        | false => rw [hc] at hK; cases hK
        | true =>
          rw [hc] at hK; simp only [cond_true] at hK
          simp only [Bool.and_eq_true] at hc
          have c1 : sizeJ P el = e.w := Nat.eq_of_beq_eq_true hc.1
          have c2 : 1 ≤ e.w := Nat.le_of_ble_eq_true hc.2
          split at hK
          · rename_i hib
            obtain ⟨_, base, cap, e1, hcap, vs, hk, hor⟩ := hx; cases e1
            have hlt := toNat_lt hib
            rcases hor with rfl | ⟨b, o, rfl, him⟩
            · simp at hlt
            · refine ⟨_, run_indexAt hu (by omega) hib, .same h hK ?_⟩
              refine ⟨b, o + i.toNat * sizeJ P el, _, rfl, EKR_cells (EKL_get hk hlt), ?_⟩
              rw [c1]; exact him.sub _ _
          · cases hK
      · cases hK
    · rename_i n el hu
      split at hK
      · rename_i k' ha
        obtain ⟨d, hd⟩ := arrOf_und ha
        split at hK
        · rename_i id off
          split at hK
          · rename_i cs rw ho
            split at hK
            · rename_i hib
              obtain ⟨hn, y, e1, hone, hy⟩ := hx; cases e1
              rw [hy (by rw [ho]; rfl)]
              exact ⟨_, run_indexArr hu (run_sizeOf hd) hib, .same h hK ⟨hn, _, rfl, rfl, fun _ => rfl⟩⟩
            · cases hK
          · cases hK
        · rename_i id off d'
          split at hK
          · rename_i cs rw ho
            split at hK
            · rename_i hib
              obtain ⟨hn, y, e1, hone, hy⟩ := hx; cases e1
              rw [hy (by rw [ho]; rfl)]
              exact ⟨_, run_indexArr hu (run_sizeOf hd) hib, .same h hK ⟨hn, _, rfl, rfl, fun _ => by rw [Nat.add_assoc]⟩⟩
            · cases hK
          · cases hK
        · cases hK
      · split at hK
        · rename_i id off
          split at hK
          · rename_i cs rw ho
            split at hK
            · rename_i j
              cases hc : (Nat.blt j n && Nat.ble 1 (sizeJ P el)) with
              | false => rw [hc] at hK; cases hK
              | true =>
                rw [hc] at hK; simp only [cond_true] at hK
                simp only [Bool.and_eq_true] at hc
                have c1 : j < n := Nat.le_of_ble_eq_true hc.1
                have c2 : 1 ≤ sizeJ P el := Nat.le_of_ble_eq_true hc.2
                obtain ⟨hn, y, e1, hone, hy⟩ := hx; cases e1
                rw [hy (by rw [ho]; rfl)]
                have := run_indexArr (P := P) (w := w) (k := k) (i := Int.ofNat j) (b := (E.φ id).blk) (o := (E.φ id).off + off) hu (size_pos c2) ⟨Int.natCast_nonneg j, by exact Int.ofNat_lt.2 c1⟩
                exact ⟨_, this, .same h hK ⟨hn, _, rfl, rfl, fun _ => by rw [Nat.add_assoc]; rfl⟩⟩
            · cases hK
          · cases hK
        · cases hK
    · cases hK
  · cases hK
theorem fieldPlace_run {f : Field} {b o : Nat} (hs : sizeJ P f.type ≠ 0) : (fieldPlace ⟨b, o, none⟩ f).run P w = .ok ⟨b, o + f.offset, none⟩ w := by
  simp only [fieldPlace, Sem.run_bind, size_pos (show 1 ≤ sizeJ P f.type by omega), Result.andThen_ok, Sem.run_ite, if_neg hs, Sem.run_pure, addr_add]
theorem fieldAddrJ_ok {t : TypeId} {jx : JV} {x : Value} {f : Nat} {K : K1 R} (h : Rep S w0 E st a w) (hx : RV E st.H jx x) (hK : fieldAddrJ P t jx f st K = some r) :
    ∃ v, (Instr.fieldAt t x f).run P w = .ok v w ∧ Out K r S w0 st a v w := by
  unfold fieldAddrJ at hK
  split at hK
  · rename_i fs hu
    split at hK
    · rename_i fl hf
      cases hc : Nat.beq (sizeJ P fl.type) 0 with
      | true => rw [hc] at hK; cases hK
      | false =>
        rw [hc] at hK; simp only [cond_false] at hK
        have hs : sizeJ P fl.type ≠ 0 := fun e => by rw [e] at hc; cases hc
        have run : ∀ {b o : Nat}, (Instr.fieldAt t (.pointer (some ⟨b, o, none⟩)) f).run P w = .ok (.pointer (some ⟨b, o + fl.offset, none⟩)) w := by
          intro b o
          simp only [Instr.fieldAt, Sem.run_bind, run_underlying hu, Result.andThen_ok, hf, Instr.sureAddr, Sem.run_pure, fieldPlace_run hs]
        split at hK
        · rename_i id off
          split at hK
          · rename_i cs rw ho
            obtain ⟨hn, y, e1, hone, hy⟩ := hx; cases e1
            rw [hy (by rw [ho]; rfl)]
            exact ⟨_, run, .same h hK ⟨hn, _, rfl, rfl, fun _ => by rw [Nat.add_assoc]⟩⟩
          · cases hK
        · rename_i id i c
          split at hK
          · rename_i e l rw ho
            obtain ⟨hn, y, e1, hone, hy⟩ := hx; cases e1
            rw [hy _ _ (by rw [ho]; rfl)]
            refine ⟨_, run, .same h hK ⟨hn, _, rfl, rfl, fun e' n' hs' => ?_⟩⟩
            rw [ho] at hs'; cases hs'
            rw [Nat.add_assoc]
          · cases hK
        · rename_i esc cs
          split at hK
          · rename_i cs' hd
            obtain ⟨b, o, vs, e1, hr, him⟩ := hx; cases e1
            obtain ⟨h1, h2⟩ := dropAt_ok hd hr
            refine ⟨_, run, .same h hK ⟨b, o + fl.offset, _, rfl, h1, ?_⟩⟩
            have := him.sub fl.offset (vs.drop fl.offset).length
            rwa [List.take_length] at this
          · cases hK
        · cases hK
    · cases hK
  · cases hK
theorem indexJ_ok {t : TypeId} {jx ji : JV} {x iv : Value} {K : K1 R} (h : Rep S w0 E st a w) (hx : RV E st.H jx x) (hi : RV E st.H ji iv) (hK : indexJ P t jx ji st K = some r) :
    ∃ v, (Instr.index t x iv).run P w = .ok v w ∧ Out K r S w0 st a v w := by
  unfold indexJ at hK
  split at hK
  · rename_i k i
    obtain ⟨rfl, hik⟩ := RV_int hi
    split at hK
    · rename_i hu
      split at hK
      · rename_i l
        split at hK
        · rename_i hib
          obtain ⟨s, e1, rfl, hml⟩ := hx; cases e1
          have hlt := toNat_lt hib
          have hget : (bytesOf s)[i.toNat]? = (s.data.toList[i.toNat]?).map fun b => (b.toNat : Int) := by simp [bytesOf]
          have hsz : i.toNat < s.data.toList.length := by rw [bytes_len] at hlt; simpa using hlt
          have hs : s[i.toNat]? = some (s.data.toList[i.toNat]'hsz) := by
            have hsz' : i.toNat < s.size := by simpa using hsz
            rw [getElem?_pos s i.toNat hsz']; rfl
          have hd : (bytesOf s).getD i.toNat 0 = ((s.data.toList[i.toNat]'hsz).toNat : Int) := by
            rw [List.getD_eq_getElem?_getD, hget, List.getElem?_eq_getElem hsz]; rfl
          refine ⟨.int .u8 ((s.data.toList[i.toNat]'hsz).toNat : Int), ?_, .same h hK ?_⟩
          · simp only [Instr.index, asIntOf, Sem.run_bind, Sem.run_pure, Result.andThen_ok, run_underlying hu, if_pos hib.1, hs]
          · rw [hd]; refine int_RV ⟨?_, ?_⟩
            · show (0 : Int) ≤ _; omega
            · show _ ≤ (255 : Int); have := (s.data.toList[i.toNat]'hsz).toNat_lt; omega
        · cases hK
      · cases hK
    · rename_i n el hu
      split at hK
      · rename_i k' n' l
        split at hK
        · rename_i hib
          cases hia : isArrJ P el with
          | true =>
            rw [hia] at hK; simp only [cond_true] at hK
            cases hnn : (Nat.beq (n * sizeJ P el) n' && Nat.ble 1 (sizeJ P el)) with
            | false => rw [hnn] at hK; cases hK
            | true =>
              rw [hnn] at hK; simp only [cond_true] at hK
              rw [Bool.and_eq_true] at hnn
              have h1 : n * sizeJ P el = n' := Nat.eq_of_beq_eq_true hnn.1
              have h2 : 1 ≤ sizeJ P el := Nat.le_of_ble_eq_true hnn.2
              have hd : ∃ m e2, P.underlying el = some (.array m e2) := by
                unfold isArrJ at hia; split at hia
                · rename_i m e2 hk''; exact ⟨m, e2, hk''⟩
                · cases hia
              obtain ⟨m, e2, hd⟩ := hd
              obtain ⟨vs, e1, hvs, hln, hin⟩ := hx; cases e1
              have hlt := toNat_lt hib
              have hmul : i.toNat * sizeJ P el + sizeJ P el ≤ n' := by rw [← h1, ← Nat.succ_mul]; exact Nat.mul_le_mul_right _ hlt
              have hsub : (vs.extract (i.toNat * sizeJ P el) (i.toNat * sizeJ P el + sizeJ P el)) = (((l.drop (i.toNat * sizeJ P el)).take (sizeJ P el)).map (Value.int k')).toArray := by
                apply Array.ext'
                rw [Array.toList_extract, hvs, List.extract_eq_take_drop, ← List.map_drop, ← List.map_take]
                congr 2; omega
              refine ⟨.agg (((l.drop (i.toNat * sizeJ P el)).take (sizeJ P el)).map (Value.int k')).toArray, ?_, .same h hK ⟨_, rfl, rfl, ?_, fun y hy => hin y (List.mem_of_mem_drop (List.mem_of_mem_take hy))⟩⟩
              · simp only [Instr.index, asIntOf, Sem.run_bind, Sem.run_pure, Result.andThen_ok, run_underlying hu, Sem.run_ite, hib, and_self, if_true, part, isAgg, run_underlying hd, run_sizeOf hd, hsub]
              · rw [List.length_take, List.length_drop]; omega
          | false =>
          rw [hia] at hK; simp only [cond_false] at hK
          cases hnn : (Nat.beq n n' && Nat.beq (sizeJ P el) 1 && !isAggJ P el) with
          | false => rw [hnn] at hK; cases hK
          | true =>
            rw [hnn] at hK; simp only [cond_true] at hK
            simp only [Bool.and_eq_true, Bool.not_eq_true'] at hnn
            obtain ⟨⟨h1, h2⟩, h3⟩ := hnn
            have h1 : n = n' := Nat.eq_of_beq_eq_true h1
            have h2 : sizeJ P el = 1 := Nat.eq_of_beq_eq_true h2
            subst h1
            have hd : ∃ k'', P.underlying el = some (.int k'') := by
              unfold isAggJ at h3; split at h3
              · rename_i k'' hk''; exact ⟨k'', hk''⟩
              · cases h3
            obtain ⟨k'', hd⟩ := hd
            obtain ⟨vs, e1, hvs, hln, hin⟩ := hx; cases e1
            have hlt := toNat_lt hib
            have hlt' : i.toNat < l.length := by omega
            have hget : vs[i.toNat]? = some (.int k' l[i.toNat]) := by
              rw [← Array.getElem?_toList, hvs, List.getElem?_map, List.getElem?_eq_getElem hlt']; rfl
            have hd' : l.getD i.toNat 0 = l[i.toNat] := by rw [List.getD_eq_getElem?_getD, List.getElem?_eq_getElem hlt']; rfl
            refine ⟨_, ?_, .same h hK (by rw [hd']; exact int_RV (hin _ (List.getElem_mem _)))⟩
            simp only [Instr.index, asIntOf, Sem.run_bind, Sem.run_pure, Result.andThen_ok, run_underlying hu, Sem.run_ite, hib, and_self, if_true, part, isAgg, run_underlying hd, size_pos (show 1 ≤ sizeJ P el by omega), Bool.false_eq_true, if_false, h2, Nat.mul_one, hget]
        · cases hK
      · cases hK
    · cases hK
  · cases hK
theorem fieldJ_ok {t : TypeId} {jx : JV} {x : Value} {f : Nat} {K : K1 R} (h : Rep S w0 E st a w) (hx : RV E st.H jx x) (hK : fieldJ P t jx f st K = some r) :
    ∃ v, (Instr.field t x f).run P w = .ok v w ∧ Out K r S w0 st a v w := by
  unfold fieldJ at hK
  split at hK
  · rename_i fs cs hu
    split at hK
    · rename_i fl hf
      split at hK
      · rename_i cs' hd
        obtain ⟨vs, rfl, hr⟩ := hx
        obtain ⟨h1, h2⟩ := dropAt_ok hd hr
        obtain ⟨d, hud, hle, hm⟩ := partJ_ok h h1 hK
        have hsub : (vs.extract fl.offset (fl.offset + sizeJ P fl.type)) = ((vs.toList.drop fl.offset).take (sizeJ P fl.type)).toArray := by
          apply Array.ext'
          rw [Array.toList_extract]
          simp
        simp only [Instr.field, Sem.run_bind, run_underlying hu, Result.andThen_ok, hf, asAgg, Sem.run_pure, part, isAgg, run_underlying hud]
        have hone : ∀ x, (vs.toList.drop fl.offset).take (sizeJ P fl.type) = [x] → vs[fl.offset]? = some x := fun x hx => by
          have : ((vs.toList.drop fl.offset).take (sizeJ P fl.type))[0]? = some x := by rw [hx]; rfl
          rw [List.getElem?_take] at this; split at this
          · rw [List.getElem?_drop] at this; simpa using this
          · cases this
        cases d <;> simp only [Sem.run_pure, Result.andThen_ok, if_true, Bool.false_eq_true, if_false, Sem.run_bind, run_sizeOf hud] at hm ⊢
        case struct _ => rw [hsub]; exact ⟨_, rfl, hm⟩
        case array _ _ => rw [hsub]; exact ⟨_, rfl, hm⟩
        all_goals
          obtain ⟨x, hx, hm⟩ := hm
          rw [hone x hx]
          exact ⟨x, rfl, hm⟩
      · cases hK
    · cases hK
  · cases hK
end Go.Eng

namespace Go.Eng
variable {R : Type} {P : Program} {S : Sc} {w0 w : World} {E : En} {st : St} {a : Act} {r : R} {H : Nat → Option JObj}
theorem bnd_inv {o : Option JV} {x : Option Value} {K : Option Int → Option R} (hx : match o, x with
    | none, none => True
    | some j, some v => RV E H j v
    | _, _ => False) (h : bnd o K = some r) : ∃ i : Option (IntKind × Int), x = i.map (fun p => .int p.1 p.2) ∧ K (i.map (·.2)) = some r := by
  unfold bnd at h
  split at h
  · cases x with
    | none => exact ⟨none, rfl, h⟩
    | some v => exact hx.elim
  · rename_i k n
    cases x with
    | none => exact hx.elim
    | some v => obtain ⟨rfl, _⟩ := RV_int hx; exact ⟨some (k, n), rfl, h⟩
  · cases h
theorem cutK_inv {n : Nat} {lo hi : Option Int} {K : Unit → Option R} (h : cutK n lo hi K = some r) : K () = some r ∧ loN lo ≤ hiN n hi ∧ hiN n hi ≤ n ∧ (∀ x, lo = some x → 0 ≤ x) ∧ (∀ x, hi = some x → 0 ≤ x) := by
  unfold cutK at h
  split at h
  · exact ⟨h, Nat.zero_le _, Nat.le_refl _, by simp, by simp⟩
  · split at h
    · rename_i x hx; exact ⟨h, by simp only [loN, hiN]; omega, Nat.le_refl _, by intro y hy; cases hy; exact hx.1, by simp⟩
    · cases h
  · split at h
    · rename_i x hx; exact ⟨h, Nat.zero_le _, by simp only [hiN]; omega, by simp, by intro y hy; cases hy; exact hx.1⟩
    · cases h
  · split at h
    · rename_i x y hx
      split at h
      · rename_i hy; exact ⟨h, by simp only [loN, hiN]; omega, by simp only [hiN]; omega, by intro z hz; cases hz; exact hy.1, by intro z hz; cases hz; exact hx.1⟩
      · cases h
    · cases h
theorem run_sliceBounds {isS : Bool} {len cap : Nat} {lo hi : Option (IntKind × Int)} (h0 : ∀ x, lo.map (·.2) = some x → 0 ≤ x) (h1 : ∀ x, hi.map (·.2) = some x → 0 ≤ x) (hle : loN (lo.map (·.2)) ≤ hiN len (hi.map (·.2))) (hc : hiN len (hi.map (·.2)) ≤ cap) :
    (Instr.sliceBounds isS len cap (lo.map fun p => .int p.1 p.2) (hi.map fun p => .int p.1 p.2) none).run P w = .ok (loN (lo.map (·.2)), hiN len (hi.map (·.2)), cap) w := by
  have hb : ∀ (k : IntKind) (n : Int) (y : Nat) (c : BoundsCode), 0 ≤ n → n.toNat ≤ y → (Instr.sliceBound (.int k n) y c).run P w = .ok n.toNat w := by
    intro k n y c hn hy
    simp only [Instr.sliceBound, asIntOf, Sem.run_bind, Sem.run_pure, Result.andThen_ok, Sem.run_ite]
    rw [if_pos ⟨hn, by omega⟩]
  cases lo <;> cases hi <;> simp only [Instr.sliceBounds, Option.map_none, Option.map_some, Sem.run_bind, Sem.run_pure, Result.andThen_ok, loN, hiN] at hle hc h0 h1 ⊢
  · rename_i p; rw [hb _ _ _ _ (h1 _ rfl) hc]; rfl
  · rename_i p; rw [hb _ _ _ _ (h0 _ rfl) hle]; rfl
  · rename_i p q; rw [hb _ _ _ _ (h1 _ rfl) hc]; simp only [Result.andThen_ok]; rw [hb _ _ _ _ (h0 _ rfl) hle]; rfl
theorem cutL_eq {α : Type} (l : List α) (lo hi : Option Int) (h : hiN l.length hi ≤ l.length) : cutL l lo hi = (l.take (hiN l.length hi)).drop (loN lo) := by
  cases lo <;> cases hi <;> simp [cutL, loN, hiN]
theorem extract_bytes {s : ByteArray} {l h : Nat} (hh : h ≤ s.size) : bytesOf (s.extract l h) = ((bytesOf s).take h).drop l := by
  simp only [bytesOf]
  have : (s.extract l h).data.toList = (s.data.toList.take h).drop l := by
    rw [ByteArray.data_extract, Array.toList_extract]
    simp [List.extract_eq_take_drop, List.drop_take]
  rw [this, List.map_drop, List.map_take]
theorem sliceJ_ok {t : TypeId} {jx : JV} {x : Value} {jl jh : Option JV} {xl xh : Option Value} {K : K1 R} (h : Rep S w0 E st a w) (hx : RV E st.H jx x)
    (hl : match jl, xl with
    | none, none => True
    | some j, some v => RV E st.H j v
    | _, _ => False) (hh : match jh, xh with
    | none, none => True
    | some j, some v => RV E st.H j v
    | _, _ => False) (hK : sliceJ P t jx jl jh st K = some r) :
    ∃ v, (Instr.sliceAt t x xl xh none).run P w = .ok v w ∧ Out K r S w0 st a v w := by
  unfold sliceJ at hK
  replace hK := bnd_inv hl hK
  obtain ⟨lo, rfl, hK⟩ := hK
  replace hK := bnd_inv hh hK
  obtain ⟨hi, rfl, hK⟩ := hK
  have runS : ∀ {el : TypeId} {base : Option Addr} {len cap : Nat}, P.underlying t = some (.slice el) → 1 ≤ sizeJ P el → (∀ x, lo.map (·.2) = some x → 0 ≤ x) → (∀ x, hi.map (·.2) = some x → 0 ≤ x) → loN (lo.map (·.2)) ≤ hiN len (hi.map (·.2)) → hiN len (hi.map (·.2)) ≤ cap →
      (Instr.sliceAt t (.slice base len cap) (lo.map fun p => .int p.1 p.2) (hi.map fun p => .int p.1 p.2) none).run P w =
        .ok (.slice (if cap = loN (lo.map (·.2)) then base else base.map (·.add (loN (lo.map (·.2)) * sizeJ P el))) (hiN len (hi.map (·.2)) - loN (lo.map (·.2))) (cap - loN (lo.map (·.2)))) w := by
    intro el base len cap hu hs h0 h1 h2 h3
    simp only [Instr.sliceAt, Sem.run_bind, run_underlying hu, Result.andThen_ok, Instr.slice, run_sliceBounds h0 h1 h2 h3, size_pos hs, Sem.run_pure]
  -- a part of a row
  have part : ∀ {id : Nat} {e : EK} {l : List e.T} {rw : Bool} {el : TypeId} {off n : Nat}, st.H id = some (.row e l rw) → P.underlying t = some (.slice el) → sizeJ P el = e.w → 1 ≤ e.w → id < E.nx → SlOK (E.φ id) e.w off n l.length x → off + hiN n (hi.map (·.2)) ≤ l.length → loN (lo.map (·.2)) ≤ hiN n (hi.map (·.2)) →
      (∀ x, lo.map (·.2) = some x → 0 ≤ x) → (∀ x, hi.map (·.2) = some x → 0 ≤ x) → K (.sl id (off + loN (lo.map (·.2))) (hiN n (hi.map (·.2)) - loN (lo.map (·.2)))) st = some r →
      ∃ v, (Instr.sliceAt t x (lo.map fun p => .int p.1 p.2) (hi.map fun p => .int p.1 p.2) none).run P w = .ok v w ∧ Out K r S w0 st a v w := by
    intro id e l rw el off n ho hu hs hw hn hsl hle hlo h0 h1 hK
    obtain ⟨base, cap, rfl, c1, c2, c3, c4⟩ := hsl
    refine ⟨_, runS hu (by omega) h0 h1 hlo (by omega), .same h hK ⟨hn, _, rfl, rfl, fun e' n' hs' => ?_, fun hs' => by rw [ho] at hs'; cases hs'⟩⟩
    rw [ho] at hs'; cases hs'
    refine ⟨by omega, _, _, rfl, by omega, by omega, ?_, ?_⟩
    · have : off + loN (lo.map (·.2)) + (cap - loN (lo.map (·.2))) = off + cap := by omega
      rw [this]; exact c3
    · by_cases hz : cap = loN (lo.map (·.2))
      · left; omega
      · right
        rw [if_neg hz]
        rcases c4 with c4 | rfl
        · omega
        · simp only [Option.map_some, addr_add, hs, Nat.add_mul, Nat.add_assoc]
  split at hK
  · -- a string
    rename_i l
    split at hK
    · rename_i hu
      obtain ⟨s, e1, rfl, hml⟩ := hx; cases e1
      obtain ⟨hK, h1, h2, h3, h4⟩ := cutK_inv hK
      rw [bytes_len] at h1 h2
      refine ⟨.string (s.extract (loN (lo.map (·.2))) (hiN s.size (hi.map (·.2)))), ?_, .same h hK ?_⟩
      · simp only [Instr.sliceAt, Sem.run_bind, run_underlying hu, Result.andThen_ok, Instr.slice, Option.isSome_none, Bool.false_eq_true, if_false, run_sliceBounds h3 h4 h1 h2, Sem.run_pure]
      · rw [cutL_eq _ _ _ (by rw [bytes_len]; exact h2), bytes_len, ← extract_bytes h2]
        refine ⟨_, rfl, rfl, ?_⟩
        rw [extract_bytes h2, List.length_drop, List.length_take]; omega
    · cases hK
  · rename_i esc e l
    split at hK
    · rename_i el hu
      cases hc : (Nat.beq (sizeJ P el) e.w && Nat.ble 1 e.w) with
      | false => rw [hc] at hK; cases hK
      | true =>
        rw [hc] at hK; simp only [cond_true] at hK
        simp only [Bool.and_eq_true] at hc
        have c1 : sizeJ P el = e.w := Nat.eq_of_beq_eq_true hc.1
        have c2 : 1 ≤ e.w := Nat.le_of_ble_eq_true hc.2
        obtain ⟨hK, h1, h2, h3, h4⟩ := cutK_inv hK
        obtain ⟨hml, base, cap, e1, hcap, vs, hk, hor⟩ := hx; cases e1
        refine ⟨_, runS hu (by omega) h3 h4 h1 (by omega), .same h hK ?_⟩
        rw [cutL_eq _ _ _ h2]
        have hlen : ((l.take (hiN l.length (hi.map (·.2)))).drop (loN (lo.map (·.2)))).length = hiN l.length (hi.map (·.2)) - loN (lo.map (·.2)) := by rw [List.length_drop, List.length_take]; omega
        refine ⟨by omega, _, _, by rw [hlen], by omega, _, EKL_drop _ (EKL_take _ hk), ?_⟩
        rcases hor with rfl | ⟨b, o, rfl, him⟩
        · left; simp
        · by_cases hz : cap = loN (lo.map (·.2))
          · left; apply List.eq_nil_of_length_eq_zero; omega
          · right
            rw [if_neg hz]
            refine ⟨b, o + loN (lo.map (·.2)) * sizeJ P el, by simp only [Option.map_some, addr_add], ?_⟩
            have := him.sub (loN (lo.map (·.2)) * e.w) (hiN l.length (hi.map (·.2)) * e.w - loN (lo.map (·.2)) * e.w)
            rw [c1, List.drop_take]; exact this
    · cases hK
  · rename_i id
    split at hK
    · rename_i el hu
      split at hK
      · rename_i e l rw ho
        cases hc : (Nat.beq (sizeJ P el) e.w && Nat.ble 1 e.w) with
        | false => rw [hc] at hK; cases hK
        | true =>
          rw [hc] at hK; simp only [cond_true] at hK
          simp only [Bool.and_eq_true] at hc
          have c1 : sizeJ P el = e.w := Nat.eq_of_beq_eq_true hc.1
          have c2 : 1 ≤ e.w := Nat.le_of_ble_eq_true hc.2
          obtain ⟨hK, h1, h2, h3, h4⟩ := cutK_inv hK
          obtain ⟨hn, y, e1, hone, hy⟩ := hx; cases e1
          have hsl := hy _ _ (by rw [ho]; rfl)
          split at hK
          · rename_i q1 q2
            cases lo with
            | some _ => cases q1
            | none =>
              cases hi with
              | some _ => cases q2
              | none =>
                obtain ⟨base, cap, rfl, d1, d2, d3, d4⟩ := hsl
                refine ⟨_, runS hu (by omega) h3 h4 h1 (by simpa [hiN] using d1), .same h hK ⟨hn, _, rfl, rfl, fun e' n' hs' => ?_⟩⟩
                rw [ho] at hs'; cases hs'
                refine ⟨_, cap, rfl, d1, d2, d3, ?_⟩
                rcases d4 with d4 | rfl
                · exact .inl d4
                · right
                  simp only [loN, Option.map_none, Nat.zero_mul, Option.map_some, addr_add, Nat.add_zero]
                  split <;> rfl
          · have := part ho hu c1 c2 hn hsl (by simpa using h2) h1 h3 h4 (by simpa using hK)
            exact this
      · cases hK
    · cases hK
  · rename_i id off n
    split at hK
    · rename_i el hu
      split at hK
      · rename_i e l rw ho
        cases hc : (Nat.beq (sizeJ P el) e.w && Nat.ble 1 e.w) with
        | false => rw [hc] at hK; cases hK
        | true =>
          rw [hc] at hK; simp only [cond_true] at hK
          simp only [Bool.and_eq_true] at hc
          have c1 : sizeJ P el = e.w := Nat.eq_of_beq_eq_true hc.1
          have c2 : 1 ≤ e.w := Nat.le_of_ble_eq_true hc.2
          obtain ⟨hn, y, e1, hone, hy⟩ := hx; cases e1
          obtain ⟨hle, hsl⟩ := hy.1 _ _ (by rw [ho]; rfl)
          cases hi with
          | none =>
            simp only [Option.map_none] at hK
            obtain ⟨hK, h1, h2, h3, h4⟩ := cutK_inv hK
            exact part ho hu c1 c2 hn hsl (by simpa [hiN] using hle) h1 h3 (by simp) hK
          | some p =>
            simp only [Option.map_some] at hK
            split at hK
            · rename_i hb
              obtain ⟨hK, h1, h2, h3, h4⟩ := cutK_inv hK
              have := h4 _ rfl
              exact part ho hu c1 c2 hn hsl (by simp only [Option.map_some, hiN]; omega) (by simpa [hiN] using h1) h3 (by simpa using this) (by simpa [hiN] using hK)
            · cases hK
      · cases hK
    · cases hK
  · cases hx
    split at hK
    · rename_i el hu
      cases hc : Nat.ble 1 (sizeJ P el) with
      | false => rw [hc] at hK; cases hK
      | true =>
        rw [hc] at hK; simp only [cond_true] at hK
        obtain ⟨hK, h1, h2, h3, h4⟩ := cutK_inv hK
        refine ⟨_, runS hu (Nat.le_of_ble_eq_true hc) h3 h4 h1 h2, .same h hK ?_⟩
        have e1 : loN (lo.map (·.2)) = 0 := by omega
        have e2 : hiN 0 (hi.map (·.2)) = 0 := by omega
        rw [e1, e2]; rfl
    · cases hK
  · rename_i id off
    split at hK
    · rename_i n el hu
      split at hK
      · rename_i cs rw ho
        cases hc : (Nat.beq (sizeJ P el) 1 && Nat.ble n 9223372036854775807) with
        | false => rw [hc] at hK; cases hK
        | true =>
          rw [hc] at hK; simp only [cond_true] at hK
          simp only [Bool.and_eq_true] at hc
          have c1 : sizeJ P el = 1 := Nat.eq_of_beq_eq_true hc.1
          have c2 : n ≤ ML := Nat.le_of_ble_eq_true hc.2
          obtain ⟨hn, y, e1, hone, hy⟩ := hx; cases e1
          rw [hy (by rw [ho]; rfl)]
          split at hK
          · rename_i hlo
            cases lo with
            | some _ => cases hlo
            | none =>
              split at hK
              · rename_i hhi
                cases hi with
                | some _ => cases hhi
                | none =>
                  refine ⟨.slice (some ⟨(E.φ id).blk, (E.φ id).off + off, none⟩) n n, ?_, .same h hK ⟨hn, _, rfl, rfl, (fun e' n' hs' => by rw [ho] at hs'; cases hs'), fun _ => ⟨c2, n, Nat.le_refl _, rfl⟩⟩⟩
                  have hb := run_sliceBounds (P := P) (w := w) (isS := false) (len := n) (cap := n) (lo := none) (hi := none) (by simp) (by simp) (Nat.zero_le _) (Nat.le_refl _)
                  simp only [Option.map_none, loN, hiN] at hb
                  simp only [Instr.sliceAt, Sem.run_bind, run_underlying hu, Result.andThen_ok, Instr.sureAddr, Sem.run_pure, Option.map_none, hb, size_pos (show 1 ≤ sizeJ P el by omega), Nat.sub_zero, Nat.zero_mul, addr_add, Nat.add_zero, ite_self]
              · rename_i b hhi
                split at hK
                · rename_i hbb
                  cases hi with
                  | none => cases hhi
                  | some p =>
                    simp only [Option.map_some, Option.some.injEq] at hhi
                    subst hhi
                    refine ⟨.slice (some ⟨(E.φ id).blk, (E.φ id).off + off, none⟩) p.2.toNat n, ?_, .same h hK ⟨hn, _, rfl, rfl, (fun e' n' hs' => by rw [ho] at hs'; cases hs'), fun _ => ⟨by omega, n, by omega, rfl⟩⟩⟩
                    have hb := run_sliceBounds (P := P) (w := w) (isS := false) (len := n) (cap := n) (lo := none) (hi := some p) (by simp) (by simp; omega) (Nat.zero_le _) (by simp [hiN]; omega)
                    simp only [Option.map_none, Option.map_some, loN, hiN] at hb
                    simp only [Instr.sliceAt, Sem.run_bind, run_underlying hu, Result.andThen_ok, Instr.sureAddr, Sem.run_pure, Option.map_none, Option.map_some, hb, size_pos (show 1 ≤ sizeJ P el by omega), Nat.sub_zero, Nat.zero_mul, addr_add, Nat.add_zero, ite_self]
                · cases hK
          · cases hK
      · cases hK
    · cases hK
  · cases hK
end Go.Eng

namespace Go.Eng
variable {R : Type} {P : Program} {S : Sc} {w0 w : World} {E : En} {st : St} {a : Act} {r : R} {H : Nat → Option JObj}
theorem made_flat (z : Array Value) (n : Nat) (hz : 0 < z.size) : (madeCells z (n * z.size)).toList = (List.replicate n z.toList).flatten := by
  unfold madeCells
  rw [Array.toList_map, Array.toList_range]
  induction n with
  | zero => simp
  | succ n ih =>
    rw [Nat.succ_mul, List.range_add, List.map_append, ih, List.replicate_succ', List.flatten_append, List.map_map]
    congr 1
    simp only [List.flatten_cons, List.flatten_nil, List.append_nil]
    apply List.ext_getElem
    · simp
    · intro i h1 h2
      simp at h1 h2
      simp only [List.getElem_map, List.getElem_range, Function.comp_apply]
      rw [show (n * z.size + i) % z.size = i by rw [Nat.add_comm, Nat.add_mul_mod_self_right, Nat.mod_eq_of_lt h1]]
      simp [h1]
theorem makeJ_ok {t : TypeId} {jn jc : JV} {n c : Value} {K : K1 R} (h : Rep S w0 E st a w) (hn : RV E st.H jn n) (hc : RV E st.H jc c) (hK : makeJ P t jn jc st K = some r) :
    ∃ v w', (Instr.makeSlice t n c).run P w = .ok v w' ∧ Out K r S w0 st a v w' := by
  unfold makeJ at hK
  split at hK
  · rename_i el hu
    split at hK
    · rename_i k1 n'
      split at hK
      · rename_i k2 c'
        split at hK
        · rename_i e he
          split at hK
          · rename_i z hz
            split at hK
            · rename_i x hx
              cases hcc : (Nat.beq (sizeJ P el) e.w && Nat.ble 1 e.w && Nat.ble 1 (bytesJ P el)) with
              | false => rw [hcc] at hK; cases hK
              | true =>
                rw [hcc] at hK; simp only [cond_true] at hK
                simp only [Bool.and_eq_true] at hcc
                obtain ⟨⟨c1, c2⟩, c3⟩ := hcc
                have c1 : sizeJ P el = e.w := Nat.eq_of_beq_eq_true c1
                have c2 : 1 ≤ e.w := Nat.le_of_ble_eq_true c2
                have c3 : 1 ≤ bytesJ P el := Nat.le_of_ble_eq_true c3
                split at hK
                · rename_i hb
                  obtain ⟨rfl, _⟩ := RV_int hn
                  obtain ⟨rfl, _⟩ := RV_int hc
                  obtain ⟨i, zv, hi, hzv, hzr⟩ := zeroJ_ok hz
                  have hby : bytesJ P el = i.bytes := by simp [bytesJ, Program.bytesOf, hi]
                  have hsz : i.size = e.w := by rw [← c1]; simp [sizeJ, Program.cellsOf, hi]
                  rw [hby] at hb c3
                  obtain ⟨b1, b2, b3⟩ := hb
                  have hbn : c'.toNat * i.bytes ≤ room := by
                    have h9 : (c'.toNat : Int) = c' := Int.toNat_of_nonneg (by omega)
                    have : ((c'.toNat * i.bytes : Nat) : Int) ≤ (room : Int) := by rw [Int.natCast_mul, h9]; exact b3
                    exact Int.ofNat_le.1 this
                  have hml : c'.toNat ≤ ML := ml_of hbn c3
                  have hrun := run_make (P := P) w t el i zv hu hi hzv k1 k2 n' c' b1 b2 (by rw [Int.mul_comm]; unfold room at b3; omega) (by unfold ML at hml; omega)
                  have hel := un_EKR (E := E) (H := st.H) hx (hzr E st.H)
                  have hzl := EKR_len hel
                  have hzsz : zv.cells.size = e.w := by simpa using hzl
                  have hcells : (madeCells zv.cells (c'.toNat * i.size)).toList = (List.replicate c'.toNat zv.cells.toList).flatten := by
                    rw [hsz, ← hzsz]; exact made_flat _ _ (by omega)
                  have hrep := EKL_rep hel n'.toNat
                  have hlen := EKL_len hrep
                  have hlenc := EKL_len (EKL_rep hel c'.toNat)
                  rw [List.length_replicate] at hlen hlenc
                  have hsize : (madeCells zv.cells (c'.toNat * i.size)).size = c'.toNat * e.w := by rw [size_madeCells, hsz]
                  have hnc : n'.toNat ≤ c'.toNat := by omega
                  refine ⟨_, _, hrun, made_ok h (.row e (List.replicate n'.toNat x) true) rfl (List.replicate n'.toNat zv.cells.toList).flatten _ el 0 0 (.inl (Nat.le_refl _)) ?_ ?_ ⟨hrep, by rw [List.length_replicate]; omega⟩ ?_ hK⟩
                  · rw [hcells]
                    have hsplit : c'.toNat = n'.toNat + (c'.toNat - n'.toNat) := by omega
                    rw [hsplit, ← List.replicate_append_replicate, List.flatten_append, List.take_left' rfl]
                  · rw [hlen, hsize]; exact Nat.mul_le_mul_right _ hnc
                  · have := full_new (l := List.replicate n'.toNat x) h (m := c'.toNat) (n := c'.toNat * e.w) (by rw [List.length_replicate]; exact hnc) (Nat.le_refl _)
                    rw [List.length_replicate] at this
                    rw [hsize]; exact this
                · cases hK
            · cases hK
          · cases hK
        · cases hK
      · cases hK
    · cases hK
  · cases hK
theorem push_bytes : ∀ (ns : List Int) (s : ByteArray), (∀ x ∈ ns, inK .u8 x) → bytesOf (ns.foldl (fun r n => r.push (UInt8.ofNat n.toNat)) s) = bytesOf s ++ ns
  | [], s, _ => by simp
  | n :: ns, s, h => by
    have hn := h n (by simp)
    have h1 : (0 : Int) ≤ n := hn.1
    have h2 : n ≤ (255 : Int) := hn.2
    have e : ((UInt8.ofNat n.toNat).toNat : Int) = n := by
      rw [UInt8.toNat_ofNat']; omega
    rw [List.foldl_cons, push_bytes ns _ (fun x hx => h x (by simp [hx]))]
    have : bytesOf (s.push (UInt8.ofNat n.toNat)) = bytesOf s ++ [n] := by
      simp only [bytesOf, ByteArray.data_push, Array.toList_push, List.map_append, List.map_cons, List.map_nil, e]
    rw [this, List.append_assoc]; rfl
theorem slice_form (h : Rep S w0 E st a w) {e : EK} {jv : JV} {v : Value} {l : List e.T} (hv : RV E st.H jv v) (hs : ∀ s, jv ≠ .str s) (hl : listJ e jv st = some l) : ∃ base cap, v = .slice base l.length cap := by
  unfold listJ at hl
  split at hl
  · cases hl; cases hv; exact ⟨none, 0, rfl⟩
  · rename_i esc e' l'
    obtain ⟨rfl, hl⟩ := castL_inv hl
    have hl := eq_of_heq hl; subst hl
    obtain ⟨_, base, cap, e1, _⟩ := hv; cases e1
    exact ⟨base, cap, rfl⟩
  · exact (hs _ rfl).elim
  · rename_i id
    split at hl
    · rename_i e' l' rw ho
      obtain ⟨rfl, hl⟩ := castL_inv hl
      have hl := eq_of_heq hl; subst hl
      obtain ⟨hn, x, e1, _, hx⟩ := hv; cases e1
      obtain ⟨base, cap, rfl, _⟩ := hx _ _ (by rw [ho]; rfl)
      exact ⟨base, cap, rfl⟩
    · cases hl
  · rename_i id off n
    split at hl
    · rename_i e' l' rw ho
      obtain ⟨rfl, hl⟩ := castL_inv hl
      have hl := eq_of_heq hl; subst hl
      obtain ⟨hn, x, e1, _, hx⟩ := hv; cases e1
      obtain ⟨hle, base, cap, rfl, _⟩ := hx.1 _ _ (by rw [ho]; rfl)
      exact ⟨base, cap, by congr 1; simp; omega⟩
    · cases hl
  · cases hl
theorem freeze_alloc (w : World) (c : Array Value) (t : TypeId) : ((w.alloc (.cells c t)).freeze ⟨w.heap.size, c.size, none⟩ 1) = w.alloc (.cells c t (c.size, c.size + 1)) := by
  unfold World.freeze World.alloc
  simp only [Nat.one_ne_zero, if_false]
  congr 1
  apply Array.ext_getElem?
  intro i
  rw [Array.getElem?_modify, Array.getElem?_push, Array.getElem?_push]
  by_cases hi : w.heap.size = i
  · subst hi; simp
  · rw [if_neg hi, if_neg (fun e => hi e.symm), if_neg (fun e => hi e.symm)]
def byteCells (s : ByteArray) (n : Nat) : Array Value := s.data.map (fun b : UInt8 => Value.int .u8 (b.toNat : Int)) ++ Array.replicate (n - s.size) (Value.int .u8 0)
theorem toBytes_run {s : ByteArray} {el : TypeId} : (Conv.stringToBytes el s).run P w = .ok (.slice (some ⟨w.heap.size, 0, none⟩) s.size (grownCap w s.size 0 el))
    (w.drew.alloc (.cells (byteCells s (grownCap w s.size 0 el)) el ((byteCells s (grownCap w s.size 0 el)).size, (byteCells s (grownCap w s.size 0 el)).size + 1))) := by
  have hch : (choose (.appendCap s.size 0 el)).run P w = .ok (grownCap w s.size 0 el) w.drew := by rw [run_choose]; rfl
  have e : (s.data.map (fun b : UInt8 => Value.int .u8 (b.toNat : Int)) ++ Array.replicate (grownCap w s.size 0 el - s.size) (Value.int .u8 0)) = byteCells s (grownCap w s.size 0 el) := rfl
  have hshape : ∀ c, (w.drew.alloc (.cells c el)).shape? w.drew.heap.size = some (el, c.size) := fun c => by
    show (match (w.drew.heap.push (Obj.cells c el (0, 0)))[w.drew.heap.size]? with | some (.cells c elem _) => some (elem, c.size) | _ => none) = _
    rw [Array.getElem?_push, if_pos rfl]
  simp only [Conv.stringToBytes, Sem.run_bind, hch, Result.andThen_ok, newRow, run_newObj, Sem.run_pure, World.alloc_eq, e, markStringish, run_shape, hshape, run_freeze]
  rw [show w.heap.size = w.drew.heap.size from rfl, ← freeze_alloc]
theorem convJ_ok {src dst : TypeId} {jx : JV} {x : Value} {K : K1 R} (h : Rep S w0 E st a w) (hx : RV E st.H jx x) (hK : convJ P src dst jx st K = some r) :
    ∃ v w', (convert src dst x).run P w = .ok v w' ∧ Out K r S w0 st a v w' := by
  unfold convJ at hK
  split at hK
  · rename_i k hd
    split at hK
    · rename_i k1 k2 n hs
      obtain ⟨rfl, _⟩ := RV_int hx
      exact ⟨_, w, by simp only [convert, Sem.run_bind, run_underlying hs, run_underlying hd, Result.andThen_ok, Conv.intToInt, Sem.run_pure], .same h hK (int_RV (wrap_in _ _))⟩
    · cases hK
  · rename_i hd
    split at hK
    · rename_i hs
      split at hK
      · obtain ⟨s, e1, h2⟩ := hx; cases e1
        exact ⟨_, w, by simp only [convert, Sem.run_bind, run_underlying hs, run_underlying hd, Result.andThen_ok, Sem.run_pure], .same h hK ⟨s, rfl, h2⟩⟩
      · cases hK
    · rename_i el hs
      split at hK
      · rename_i he
        split at hK
        · cases hK
        · rename_i hns
          replace hK := withL_inv hK
          obtain ⟨l, hl, hK⟩ := hK
          obtain ⟨us, hus, hreads⟩ := listJ_ok (P := P) h (by decide) hx hl
          obtain ⟨rfl, hin⟩ := EKL_int.1 hus
          obtain ⟨base, cap, rfl⟩ := slice_form h hx (fun s e => hns s e) hl
          split at hK
          · rename_i hml
            refine ⟨.string (List.foldl (fun r (n : Int) => r.push (UInt8.ofNat n.toNat)) ByteArray.empty l), w, ?_, .same h hK ⟨_, rfl, ?_, hml⟩⟩
            · rw [run_convert_bytes_string w src dst el base _ _ hs he hd]
              have hr := hreads.2 w rfl
              cases base with
              | none =>
                have : l = [] := by
                  simp only [Builtin.firstCells, Sem.run_pure, Result.ok.injEq, and_true] at hr
                  have h9 := congrArg Array.toList hr
                  simpa using h9.symm
                subst this; rfl
              | some p =>
                refine run_bytesToString w p _ cap l ?_
                simpa [Builtin.firstCells, EK.w, SK.w] using hr
            · rw [push_bytes _ _ hin]; rfl
          · cases hK
      · cases hK
    · cases hK
  · rename_i el hd
    split at hK
    · rename_i l hs he
      obtain ⟨s, e1, rfl, hml⟩ := hx; cases e1
      have hd' : Rep S w0 E st a w.drew := { h.toRepH.heap (w' := w.drew) rfl rfl rfl rfl with env := h.env, defers := h.defers }
      have hge := grownCap_ge w s.size 0 el
      refine ⟨_, _, by simp only [convert, Sem.run_bind, run_underlying hs, run_underlying hd, run_underlying he, Result.andThen_ok]; exact toBytes_run, ?_⟩
      have hlen : (byteCells s (grownCap w s.size 0 el)).size = grownCap w s.size 0 el := by
        have : s.data.size = s.size := rfl
        simp only [byteCells, Array.size_append, Array.size_map, Array.size_replicate, this]; omega
      have hfull := full_new (e := .one (.int .u8)) (l := bytesOf s) hd' (m := grownCap w s.size 0 el) (n := grownCap w s.size 0 el) (by rw [bytes_len]; exact hge) (by show _ * 1 ≤ _; omega)
      rw [bytes_len] at hfull
      refine made_ok hd' (.row (.one (.int .u8)) (bytesOf s) true) rfl ((bytesOf s).map (Value.int .u8)) _ el _ _ (.inr (Nat.le_refl _)) ?_ ?_ ⟨EKL_int.2 ⟨rfl, ?_⟩, hml⟩ (by rw [hlen]; exact hfull) hK
      · rw [byteCells, Array.toList_append, Array.toList_map, List.take_left']
        · simp [bytesOf]
        · simp [bytesOf]
      · rw [hlen, List.length_map, bytes_len]; exact hge
      · intro x hx
        obtain ⟨b, _, rfl⟩ := List.mem_map.1 hx
        have := b.toNat_lt
        constructor
        · show (0 : Int) ≤ _; omega
        · show _ ≤ (255 : Int); omega
    · cases hK
  · cases hK
end Go.Eng

namespace Go.Eng
variable {R : Type} {P : Program} {S : Sc} {w0 w : World} {E : En} {st : St} {a : Act} {r : R} {H : Nat → Option JObj}
theorem fold_set (off : Nat) : ∀ (vs : List Value) (k : Nat) (cells : Array Value), off + k + vs.length ≤ cells.size →
    ((vs.zipIdx k).foldl (fun (cs : Array Value) (p : Value × Nat) => cs.setIfInBounds (off + p.2) p.1) cells).toList = splice cells.toList (off + k) vs
  | [], k, cells, h => by simp [splice]
  | v :: vs, k, cells, h => by
    simp only [List.length_cons] at h
    rw [List.zipIdx_cons, List.foldl_cons, fold_set off vs (k + 1) _ (by simp; omega)]
    have : (cells.setIfInBounds (off + k) v).toList = splice cells.toList (off + k) [v] := by
      rw [Array.toList_setIfInBounds, set_splice (by simp; omega)]
    rw [this, show off + (k + 1) = (off + k) + [v].length from by simp; omega, splice_splice (by simp; omega)]; rfl
theorem fold_cells (off : Nat) (v : Value) (cells : Array Value) (h : off + v.cells.size ≤ cells.size) :
    (v.cells.zipIdx.foldl (fun (cs : Array Value) (x : Value × Nat) => match x with | (c, j) => cs.setIfInBounds (off + j) c) cells).toList = splice cells.toList off v.cells.toList := by
  have := fold_set off v.cells.toList 0 cells (by simpa using h)
  rw [← Array.foldl_toList]
  simpa using this
def RPs (E : En) (H : Nat → Option JObj) : List (Nat × JV) → List (Nat × Value) → Prop
  | [], us => us = []
  | p :: r, us => ∃ v b, us = (p.1, v) :: b ∧ RV E H p.2 v ∧ RPs E H r b
theorem fillJ_ok {t : TypeId} {place : Nat → Option (Nat × Nat)} (hp : ∀ i o n, placeJ P t i = some (o, n) → place i = some (o, n)) : ∀ {ps : List (Nat × JV)} {vs : List (Nat × Value)} {cs cs' : List JV} {cells : Array Value}, fillJ P t cs ps = some cs' → RPs E H ps vs → RCs E H cs cells.toList →
    ∃ cells', Instr.fill place cells vs = some cells' ∧ RCs E H cs' cells'.toList
  | [], vs, cs, cs', cells, h, hv, hr => by
    simp only [fillJ, Option.some.injEq] at h; subst h
    simp only [RPs] at hv; subst hv
    exact ⟨cells, rfl, hr⟩
  | (i, v) :: ps, vs, cs, cs', cells, h, hv, hr => by
    obtain ⟨x, b, rfl, hx, hb⟩ := hv
    by_cases hj : v = .junk
    · subst hj; simp [fillJ] at h
    by_cases ht : ∃ q, v = .tup q
    · obtain ⟨q, rfl⟩ := ht; simp [fillJ] at h
    have hcells : RCs E H v.cells x.cells.toList := RV_cells hj (fun q e => ht ⟨q, e⟩) hx
    have h' : (match placeJ P t i with
      | some (o, n) => cond (Nat.beq (wids v.cells) n && Nat.ble 1 n) (match putAt cs o v.cells with
        | some cs' => fillJ P t cs' ps
        | none => none) none
      | none => none) = some cs' := by
      rw [← h]
      cases v <;> first | rfl | exact (hj rfl).elim | exact (ht ⟨_, rfl⟩).elim
    clear h
    cases hpl : placeJ P t i with
    | none => rw [hpl] at h'; cases h'
    | some p =>
      obtain ⟨o, n⟩ := p
      rw [hpl] at h'; simp only at h'
      cases hc : (Nat.beq (wids v.cells) n && Nat.ble 1 n) with
      | false => rw [hc] at h'; cases h'
      | true =>
        rw [hc] at h'; simp only [cond_true] at h'
        simp only [Bool.and_eq_true] at hc
        have c1 : wids v.cells = n := Nat.eq_of_beq_eq_true hc.1
        have c2 : 1 ≤ n := Nat.le_of_ble_eq_true hc.2
        cases hpu : putAt cs o v.cells with
        | none => rw [hpu] at h'; cases h'
        | some cs1 =>
          rw [hpu] at h'; simp only at h'
          have hl1 := RCs_len hr
          have hl2 := RCs_len hcells
          have hle := putAt_le hpu (by omega)
          obtain ⟨p1, p2⟩ := putAt_ok hpu hr hcells (by omega)
          have hfit : o + x.cells.size ≤ cells.size := by simpa using p2
          have hf := fold_cells o x cells hfit
          rw [← hf] at p1
          obtain ⟨cells', q1, q2⟩ := fillJ_ok hp h' hb p1
          refine ⟨cells', ?_, q2⟩
          have hsz : x.cells.size = n := by rw [← c1, ← hl2]; simp
          simp only [Instr.fill, hp i o n hpl]
          rw [if_neg (by simp; omega)]
          exact q1
theorem run_mapM {α β : Type} (f : α → Sem β) (g : α → β) : ∀ (l : List α), (∀ x ∈ l, (f x).run P w = .ok (g x) w) → (l.mapM f).run P w = .ok (l.map g) w
  | [], _ => rfl
  | x :: l, h => by
    rw [List.mapM_cons, Sem.run_bind, h x (by simp), Result.andThen_ok, Sem.run_bind, run_mapM f g l (fun y hy => h y (by simp [hy])), Result.andThen_ok]; rfl
theorem run_mapMA {α β : Type} (f : α → Sem β) (g : α → β) (l : Array α) (h : ∀ x ∈ l.toList, (f x).run P w = .ok (g x) w) : (l.mapM f).run P w = .ok (l.map g) w := by
  rw [Array.mapM_eq_mapM_toList, Sem.run_map, run_mapM f g _ h, Result.andThen_ok]
  congr 1
  apply Array.ext'; simp
theorem info_run {t : TypeId} (h : (P.info? t).isSome = true) : (sizeOf t).run P w = .ok (sizeJ P t) w := by
  obtain ⟨i, hi⟩ := Option.isSome_iff_exists.1 h
  simp [sizeOf, typeInfo, hi, sizeJ, Program.cellsOf]
theorem asVal_agg {t : TypeId} {cs : List JV} {v : JV} {us : Array Value} (h : asVal P t cs = some v) (hr : RCs E H cs us.toList) (ht : (∃ fs, P.underlying t = some (.struct fs)) ∨ ∃ n e, P.underlying t = some (.array n e)) : RV E H v (.agg us) := by
  obtain ⟨d, hd, hm⟩ := asVal_ok h hr
  rcases ht with ⟨fs, ht⟩ | ⟨n, e, ht⟩ <;> rw [ht] at hd <;> cases hd <;> simpa using hm
theorem buildJ_ok {t : TypeId} {ps : List (Nat × JV)} {vs : Array (Nat × Value)} {K : K1 R} (h : Rep S w0 E st a w) (hp : RPs E st.H ps vs.toList) (hK : buildJ P t ps st K = some r) :
    ∃ v, (Instr.build t vs).run P w = .ok v w ∧ Out K r S w0 st a v w := by
  unfold buildJ at hK
  cases hpo : partsOk P t with
  | false => rw [hpo] at hK; cases hK
  | true =>
    rw [hpo] at hK; simp only [cond_true] at hK
    split at hK
    · rename_i z hz
      split at hK
      · rename_i cs hf
        split at hK
        · rename_i v hv
          obtain ⟨i, zv, hi, hzv, hzr⟩ := zeroJ_ok hz
          have hzr' := hzr E st.H
          have hrz := run_zero (w := w) hi hzv
          unfold partsOk at hpo
          cases hu : P.underlying t with
          | none => rw [hu] at hpo; cases hpo
          | some d =>
            rw [hu] at hpo
            cases d <;> simp only [Bool.false_eq_true] at hpo
            case struct fs =>
              have hm := run_mapMA (P := P) (w := w) (fun f : Field => do pure (f.offset, ← sizeOf f.type)) (fun f => (f.offset, sizeJ P f.type)) fs (fun f hf => by
                rw [Sem.run_bind, info_run (List.all_eq_true.1 hpo f hf), Result.andThen_ok, Sem.run_pure])
              obtain ⟨cells', q1, q2⟩ := fillJ_ok (place := fun i => (fs.map (fun f => (f.offset, sizeJ P f.type)))[i]?) (fun i o n hpl => by
                unfold placeJ at hpl; rw [hu] at hpl; simp only at hpl
                split at hpl
                · rename_i f hf; cases hpl; simp [hf]
                · cases hpl) hf hp hzr'
              refine ⟨.agg cells', ?_, .same h hK (asVal_agg hv q2 (.inl ⟨fs, hu⟩))⟩
              simp only [Instr.build, Sem.run_bind, hrz, Result.andThen_ok, run_underlying hu, hm, q1, Sem.run_pure]
            case array n e =>
              obtain ⟨cells', q1, q2⟩ := fillJ_ok (place := fun i => some (i * sizeJ P e, sizeJ P e)) (fun i o n hpl => by
                unfold placeJ at hpl; rw [hu] at hpl; simp only at hpl; exact hpl) hf hp hzr'
              refine ⟨.agg cells', ?_, .same h hK (asVal_agg hv q2 (.inr ⟨n, e, hu⟩))⟩
              simp only [Instr.build, Sem.run_bind, hrz, Result.andThen_ok, run_underlying hu, size_pos (Nat.le_of_ble_eq_true hpo), q1, Sem.run_pure]
        · cases hK
      · cases hK
    · cases hK
end Go.Eng

namespace Go.Eng
variable {R : Type} {P : Program} {S : Sc} {w0 w : World} {E : En} {st : St} {a : Act} {r : R} {H : Nat → Option JObj}
theorem elemsJ_ok {e : EK} (hw : 1 ≤ e.w) : ∀ {ps : List (Nat × JV)} {vs : List (Nat × Value)} {j : Nat} {l0 l : List e.T} {cells : Array Value}, elemsJ e j ps = some l → RPs E H ps vs → l0.length = j → EKL E e l0 (cells.toList.take (j * e.w)) → cells.size = (j + ps.length) * e.w →
    ∃ cells', Instr.fill (fun i => some (i * e.w, e.w)) cells vs = some cells' ∧ EKL E e (l0 ++ l) cells'.toList
  | [], vs, j, l0, l, cells, h, hv, hl, hk, hs => by
    simp only [elemsJ, Option.some.injEq] at h; subst h
    simp only [RPs] at hv; subst hv
    refine ⟨cells, rfl, ?_⟩
    rw [List.take_of_length_le (by simp; simpa using Nat.le_of_eq hs)] at hk
    simpa using hk
  | (i, v) :: ps, vs, j, l0, l, cells, h, hv, hl, hk, hs => by
    obtain ⟨x, b, rfl, hx, hb⟩ := hv
    by_cases hj : v = .junk
    · subst hj; simp [elemsJ] at h
    by_cases ht : ∃ q, v = .tup q
    · obtain ⟨q, rfl⟩ := ht; simp [elemsJ] at h
    have hcells : RCs E H v.cells x.cells.toList := RV_cells hj (fun q e => ht ⟨q, e⟩) hx
    have h' : cond (Nat.beq i j) (match e.un v.cells with
      | some x => match elemsJ e (j + 1) ps with
        | some l => some (x :: l)
        | none => none
      | none => none) none = some l := by
      rw [← h]
      cases v <;> first | rfl | exact (hj rfl).elim | exact (ht ⟨_, rfl⟩).elim
    clear h
    cases hij : Nat.beq i j with
    | false => rw [hij] at h'; cases h'
    | true =>
      rw [hij] at h'; simp only [cond_true] at h'
      have hij := Nat.eq_of_beq_eq_true hij
      subst hij
      cases hu : e.un v.cells with
      | none => rw [hu] at h'; cases h'
      | some y =>
        rw [hu] at h'; simp only at h'
        cases hel : elemsJ e (i + 1) ps with
        | none => rw [hel] at h'; cases h'
        | some l1 =>
          rw [hel] at h'; simp only [Option.some.injEq] at h'; subst h'
          have hy := un_EKR hu hcells
          have hyl := EKR_len hy
          have hsz : x.cells.size = e.w := by simpa using hyl
          simp only [List.length_cons] at hs
          have hfit : i * e.w + x.cells.size ≤ cells.size := by
            rw [hs, hsz, ← Nat.succ_mul]; exact Nat.mul_le_mul_right _ (by omega)
          have hf := fold_cells (i * e.w) x cells hfit
          obtain ⟨cells', q1, q2⟩ := elemsJ_ok (cells := x.cells.zipIdx.foldl (fun (cs : Array Value) (x : Value × Nat) => match x with | (c, j) => cs.setIfInBounds (i * e.w + j) c) cells) hw hel hb (l0 := l0 ++ [y]) (by simp [hl]) (by
              rw [hf, Nat.succ_mul]
              have : (splice cells.toList (i * e.w) x.cells.toList).take (i * e.w + e.w) = cells.toList.take (i * e.w) ++ x.cells.toList := by
                have hl1 : (cells.toList.take (i * e.w)).length = i * e.w := by rw [List.length_take]; simp; omega
                unfold splice
                rw [List.take_append, List.take_of_length_le (by omega), hl1, show i * e.w + e.w - i * e.w = e.w by omega, List.take_left' hyl]
              rw [this]
              exact EKL_append hk ⟨x.cells.toList, [], by simp, hy, rfl⟩) (by
              rw [← Array.length_toList, hf, splice_len (by simpa using hfit), Array.length_toList, hs]; congr 1; omega)
          refine ⟨cells', ?_, by simpa using q2⟩
          simp only [Instr.fill]
          rw [if_neg (by simp; omega)]
          exact q1
theorem flatL_ok : ∀ {ps : List (Nat × JV)} {vs : List (Nat × Value)} {j : Nat} {l0 l : List JV} {cells : Array Value}, flatL j ps = some l → RPs E H ps vs → RCs E H l0 (cells.toList.take j) → cells.size = j + ps.length →
    ∃ cells', Instr.fill (fun i => some (i * 1, 1)) cells vs = some cells' ∧ RCs E H (l0 ++ l) cells'.toList ∧ cells'.size = cells.size
  | [], vs, j, l0, l, cells, h, hv, hk, hs => by
    simp only [flatL, Option.some.injEq] at h; subst h
    simp only [RPs] at hv; subst hv
    refine ⟨cells, rfl, ?_, rfl⟩
    rw [List.take_of_length_le (by simp; simpa using Nat.le_of_eq hs)] at hk
    simpa using hk
  | (i, v) :: ps, vs, j, l0, l, cells, h, hv, hk, hs => by
    obtain ⟨x, b, rfl, hx, hb⟩ := hv
    simp only [flatL] at h
    cases hij : (Nat.beq i j && v.capt) with
    | false => rw [hij] at h; cases h
    | true =>
      rw [hij, cond_true] at h
      simp only [Bool.and_eq_true] at hij
      obtain ⟨hij, hcapt⟩ := hij
      have hij := Nat.eq_of_beq_eq_true hij
      subst hij
      have hj : v ≠ .junk := fun e => by subst e; cases hcapt
      have hflat : v.flat = true := by cases v <;> first | exact hcapt | cases hcapt
      have ht : ∀ q, v ≠ .tup q := fun q e => by subst e; cases hflat
      have hcells : RCs E H v.cells x.cells.toList := RV_cells hj ht hx
      have hvc : v.cells = [v] := by cases v <;> first | rfl | cases hflat
      rw [hvc] at hcells
      have hsz : x.cells.size = 1 := by
        have := RCs_len hcells
        have hw : v.wid = 1 := by cases v <;> first | rfl | cases hflat
        simpa [wids, hw] using this
      cases hel : flatL (i + 1) ps with
      | none => rw [hel] at h; cases h
      | some l1 =>
        rw [hel] at h; cases h
        simp only [List.length_cons] at hs
        have hfit : i * 1 + x.cells.size ≤ cells.size := by omega
        have hf := fold_cells (i * 1) x cells hfit
        obtain ⟨cells', q1, q2, q3⟩ := flatL_ok (cells := x.cells.zipIdx.foldl (fun (cs : Array Value) (x : Value × Nat) => match x with | (c, j) => cs.setIfInBounds (i * 1 + j) c) cells) hel hb (l0 := l0 ++ [v]) (by
            rw [hf]
            have hxl : x.cells.toList.length = 1 := by simpa using hsz
            have : (splice cells.toList (i * 1) x.cells.toList).take (i + 1) = cells.toList.take i ++ x.cells.toList := by
              have hl1 : (cells.toList.take i).length = i := by rw [List.length_take]; simp; omega
              unfold splice
              rw [Nat.mul_one, List.take_append, List.take_of_length_le (by omega), hl1, show i + 1 - i = 1 by omega, List.take_left' hxl]
            rw [this]
            exact RCs_append hk hcells) (by
            rw [← Array.length_toList, hf, splice_len (by simpa using hfit), Array.length_toList, hs]; omega)
        refine ⟨cells', ?_, by simpa using q2, ?_⟩
        · simp only [Instr.fill]
          rw [if_neg (by simp; omega)]
          exact q1
        · rw [q3, ← Array.length_toList, hf, splice_len (by simpa using hfit), Array.length_toList]
theorem boxesJ_ok {t el : TypeId} {z : List JV} {n : Nat} {ps : List (Nat × JV)} {vs : Array (Nat × Value)} {K : K1 R} (h : Rep S w0 E st a w) (hp : RPs E st.H ps vs.toList) (hu : P.underlying t = some (.slice el)) (hz : zeroJ P el = some z) (hK : boxesJ P el z n ps st K = some r) :
    ∃ v w', (Instr.buildSlice t n vs).run P w = .ok v w' ∧ Out K r S w0 st a v w' := by
  unfold boxesJ at hK
  split at hK
  · rename_i cs hl
    cases hc : (Nat.beq ps.length n && Nat.ble (n * sizeJ P el) (2 ^ 24) && Nat.beq (sizeJ P el) 1 && Nat.beq (wids z) 1) with
    | false => rw [hc] at hK; cases hK
    | true =>
      rw [hc] at hK; simp only [cond_true] at hK
      simp only [Bool.and_eq_true] at hc
      obtain ⟨⟨⟨c1, c2⟩, c3⟩, c4⟩ := hc
      have c1 : ps.length = n := Nat.eq_of_beq_eq_true c1
      have c2 : n * sizeJ P el ≤ 16777216 := Nat.le_of_ble_eq_true c2
      have c3 : sizeJ P el = 1 := Nat.eq_of_beq_eq_true c3
      obtain ⟨i, zv, hi, hzv, hzr⟩ := zeroJ_ok hz
      have hrz := run_zero (w := w) hi hzv
      have hzeros : ∃ zs : Array Value, zs.size = n ∧ (Instr.buildSlice t n vs).run P w = (match Instr.fill (fun i => some (i * 1, 1)) zs vs.toList with
          | some cells => .ok (.slice (some ⟨w.heap.size, 0, none⟩) n n) (w.alloc (.cells cells el))
          | none => .halt (.stuck "buildSlice: a part of the wrong size") w) := by
        rw [c3] at c2
        have h24 : ¬ n * 1 > 2 ^ 24 := by omega
        by_cases hn0 : n * 1 = 0
        · refine ⟨(Array.range (n * 1)).map (fun i => (#[] : Array Value)[i % (#[] : Array Value).size]!), by simp, ?_⟩
          simp only [Instr.buildSlice, Sem.run_bind, run_underlying hu, Result.andThen_ok, size_pos (show 1 ≤ sizeJ P el by omega), Sem.run_ite, c3, if_neg h24, if_pos hn0, Sem.run_pure]
          generalize Instr.fill _ _ _ = o
          cases o <;> rfl
        · refine ⟨(Array.range (n * 1)).map (fun i => zv.cells[i % zv.cells.size]!), by simp, ?_⟩
          simp only [Instr.buildSlice, Sem.run_bind, run_underlying hu, Result.andThen_ok, size_pos (show 1 ≤ sizeJ P el by omega), Sem.run_ite, c3, if_neg h24, if_neg hn0, Sem.run_pure, hrz]
          generalize Instr.fill _ _ _ = o
          cases o <;> rfl
      obtain ⟨zs, hzs, hrun⟩ := hzeros
      obtain ⟨cells', q1, q2, q3⟩ := flatL_ok (E := E) (H := st.H) (cells := zs) hl hp (l0 := []) (by simp [RCs]) (by rw [hzs, c1, Nat.zero_add])
      rw [List.nil_append] at q2
      rw [q1] at hrun
      refine ⟨_, _, hrun, made_ok (jv := .sl st.nx 0 n) (v := .slice (some ⟨w.heap.size, 0, none⟩) n n) h (.box cs true) rfl cells'.toList cells' el 0 0 (.inl (Nat.le_refl _)) List.take_length (by simp) q2 ⟨new_nx h _, _, rfl, rfl, fun e' n' hs => ?_, fun _ => ⟨?_, n, Nat.le_refl _, ?_⟩⟩ hK⟩
      · rw [upd_same] at hs; cases hs
      · rw [c3] at c2; unfold ML; omega
      · rw [new_φ h]
  · cases hK
theorem buildSliceJ_ok {t : TypeId} {n : Nat} {ps : List (Nat × JV)} {vs : Array (Nat × Value)} {K : K1 R} (h : Rep S w0 E st a w) (hp : RPs E st.H ps vs.toList) (hK : buildSliceJ P t n ps st K = some r) :
    ∃ v w', (Instr.buildSlice t n vs).run P w = .ok v w' ∧ Out K r S w0 st a v w' := by
  unfold buildSliceJ at hK
  split at hK
  · rename_i el hu
    split at hK
    · rename_i z hz
      split at hK
      rotate_left
      · exact boxesJ_ok h hp hu hz hK
      rename_i e he
      split at hK
      · rename_i l hl
        cases hc : (Nat.beq ps.length n && Nat.ble (n * sizeJ P el) (2 ^ 24) && Nat.beq (sizeJ P el) e.w && Nat.beq (wids z) e.w && Nat.ble 1 e.w) with
        | false => rw [hc] at hK; cases hK
        | true =>
          rw [hc] at hK; simp only [cond_true] at hK
          simp only [Bool.and_eq_true] at hc
          obtain ⟨⟨⟨⟨c1, c2⟩, c3⟩, c4⟩, c5⟩ := hc
          have c1 : ps.length = n := Nat.eq_of_beq_eq_true c1
          have c2 : n * sizeJ P el ≤ 16777216 := Nat.le_of_ble_eq_true c2
          have c3 : sizeJ P el = e.w := Nat.eq_of_beq_eq_true c3
          have c5 : 1 ≤ e.w := Nat.le_of_ble_eq_true c5
          obtain ⟨i, zv, hi, hzv, hzr⟩ := zeroJ_ok hz
          have hrz := run_zero (w := w) hi hzv
          have hlen : l.length = ps.length := by
            clear hK hp
            have : ∀ (ps : List (Nat × JV)) (j : Nat) (l : List e.T), elemsJ e j ps = some l → l.length = ps.length := by
              intro ps
              induction ps with
              | nil => intro j l h; simp only [elemsJ, Option.some.injEq] at h; subst h; rfl
              | cons p ps ih =>
                intro j l h
                obtain ⟨i, v⟩ := p
                by_cases hj : v = .junk
                · subst hj; simp [elemsJ] at h
                by_cases ht : ∃ q, v = .tup q
                · obtain ⟨q, rfl⟩ := ht; simp [elemsJ] at h
                have h' : cond (Nat.beq i j) (match e.un v.cells with
                  | some x => match elemsJ e (j + 1) ps with
                    | some l => some (x :: l)
                    | none => none
                  | none => none) none = some l := by
                  rw [← h]
                  cases v <;> first | rfl | exact (hj rfl).elim | exact (ht ⟨_, rfl⟩).elim
                cases hij : Nat.beq i j with
                | false => rw [hij] at h'; cases h'
                | true =>
                  rw [hij] at h'; simp only [cond_true] at h'
                  cases hu : e.un v.cells with
                  | none => rw [hu] at h'; cases h'
                  | some y =>
                    rw [hu] at h'; simp only at h'
                    cases hel : elemsJ e (j + 1) ps with
                    | none => rw [hel] at h'; cases h'
                    | some l1 =>
                      rw [hel] at h'; simp only [Option.some.injEq] at h'; subst h'
                      simp [ih _ _ hel]
            exact this ps 0 l hl
          have hzeros : ∃ zs : Array Value, zs.size = n * e.w ∧ (Instr.buildSlice t n vs).run P w = (match Instr.fill (fun i => some (i * e.w, e.w)) zs vs.toList with
              | some cells => .ok (.slice (some ⟨w.heap.size, 0, none⟩) n n) (w.alloc (.cells cells el))
              | none => .halt (.stuck "buildSlice: a part of the wrong size") w) := by
            rw [c3] at c2
            have h24 : ¬ n * e.w > 2 ^ 24 := by omega
            by_cases hn0 : n * e.w = 0
            · refine ⟨(Array.range (n * e.w)).map (fun i => (#[] : Array Value)[i % (#[] : Array Value).size]!), by simp, ?_⟩
              simp only [Instr.buildSlice, Sem.run_bind, run_underlying hu, Result.andThen_ok, size_pos (show 1 ≤ sizeJ P el by omega), Sem.run_ite, c3, if_neg h24, if_pos hn0, Sem.run_pure]
              generalize Instr.fill _ _ _ = o
              cases o <;> rfl
            · refine ⟨(Array.range (n * e.w)).map (fun i => zv.cells[i % zv.cells.size]!), by simp, ?_⟩
              simp only [Instr.buildSlice, Sem.run_bind, run_underlying hu, Result.andThen_ok, size_pos (show 1 ≤ sizeJ P el by omega), Sem.run_ite, c3, if_neg h24, if_neg hn0, Sem.run_pure, hrz]
              generalize Instr.fill _ _ _ = o
              cases o <;> rfl
          obtain ⟨zs, hzs, hrun⟩ := hzeros
          obtain ⟨cells', q1, q2⟩ := elemsJ_ok (E := E) (H := st.H) (cells := zs) c5 hl hp (l0 := []) rfl (by simp [EKL]) (by rw [hzs, c1, Nat.zero_add])
          rw [List.nil_append] at q2
          have hl2 := EKL_len q2
          rw [hlen, c1] at hl2
          rw [q1] at hrun
          have hfull := full_new (l := l) h (m := n) (n := cells'.size) (by omega) (by rw [← Array.length_toList, hl2]; exact Nat.le_refl _)
          rw [hlen, c1] at hfull
          refine ⟨_, _, hrun, made_ok h (.row e l true) rfl cells'.toList cells' el 0 0 (.inl (Nat.le_refl _)) List.take_length (by simp) ⟨q2, ?_⟩ hfull hK⟩
          have : n * 1 ≤ n * sizeJ P el := Nat.mul_le_mul_left _ (by omega)
          have : n * sizeJ P el ≤ 16777216 := c2
          rw [hlen, c1]; unfold ML; omega
      · exact boxesJ_ok h hp hu hz hK
    · cases hK
  · cases hK
theorem bytes_inj {s s' : ByteArray} (h : bytesOf s = bytesOf s') : s = s' := by
  have h1 : s.data.toList = s'.data.toList := by
    have hinj : ∀ (l m : List UInt8), l.map (fun b => (b.toNat : Int)) = m.map (fun b => (b.toNat : Int)) → l = m := by
      intro l
      induction l with
      | nil => intro m h; cases m with
        | nil => rfl
        | cons _ _ => simp at h
      | cons x l ih => intro m h; cases m with
        | nil => simp at h
        | cons y m =>
          simp only [List.map_cons, List.cons.injEq] at h
          rw [ih m h.2, UInt8.toNat_inj.1 (show x.toNat = y.toNat by omega)]
    exact hinj _ _ h
  cases s; cases s'; congr 1; exact Array.ext' h1
theorem bytes_eq (s s' : ByteArray) : (s.toList == s'.toList) = decide (bytesOf s = bytesOf s') := by
  rw [Bool.eq_iff_iff]
  simp only [beq_iff_eq, decide_eq_true_eq]
  constructor
  · intro h
    rw [ByteArray.toList_eq, ByteArray.toList_eq] at h
    simp [bytesOf, h]
  · intro h; rw [bytes_inj h]
theorem ints_inj {k : IntKind} {l m : List Int} (h : l.map (Value.int k) = m.map (Value.int k)) : l = m := by
  induction l generalizing m with
  | nil => cases m with
    | nil => rfl
    | cons _ _ => simp at h
  | cons x l ih => cases m with
    | nil => simp at h
    | cons y m =>
      simp only [List.map_cons, List.cons.injEq, Value.int.injEq, true_and] at h
      rw [h.1, ih h.2]
end Go.Eng

