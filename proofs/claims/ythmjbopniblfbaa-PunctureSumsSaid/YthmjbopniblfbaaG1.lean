/- What the functions of this seat come to, in plain Lean, part 1. No condition. -/
import Derived.Test.YthmjbopniblfbaaE3
import Derived.Test.YthmjbopniblfbaaE4
import Derived.Test.YthmjbopniblfbaaProg
import Derived.KernelRfl
set_option linter.unusedVariables false
set_option linter.unusedSimpArgs false
set_option linter.unusedVariables false
set_option maxRecDepth 100000
open Go Go.Eng Go.Proofs
namespace Go.Eng.Pu
theorem mixed : Try.prog.follows .mixedOrders = true := by kernel_rfl
/-! 63 keeper$1 -/
abbrev pin63 : VPL := (.cons (.int .i64) (.cons (.int .i64) (.cons (.ptr 0 0) .nil)))
abbrev os63 : List OP := [.box (.cons (.int .i64) (.cons (.arr .u64 3) .nil)) false]
abbrev alts63 : List Alt := [(.bool, [.box (.cons (.int .i64) (.cons (.arr .u64 3) .nil)) false])]
noncomputable def body63 : Code := match Try.f63.body with
  | some c => c
  | none => .skip
def F63 : pin63.T → OPL.T os63 → Option (AT alts63)
  | (a1, (a2, ((), ()))), ((a3, (a4, ())), ()) =>
    if (0 : Int) ≤ a2 ∧ a2 < (3 : Int) then
      if Int.toNat a2 * (1 : Nat) < (3 : Nat) then
        if a3 = (0 : Int) then none
        else
          if Int.tmod a1 a3 < (0 : Int) then none
          else
            some
              (!decide
                    (IntKind.wrap IntKind.u64
                        (↑(BitVec.toNat
                              (BitVec.ofInt (64 : Nat)
                                  (shr' IntKind.u64 (List.getD a4 (Int.toNat a2 * (1 : Nat)) (0 : Int))
                                    (Int.tmod a1 a3)) &&&
                                BitVec.ofInt (64 : Nat) (1 : Int))) :
                          Int) =
                      (0 : Int)),
                (a3, a4, ()), ())
      else none
    else none
noncomputable def T63 : List (Entry Try.prog) := []
noncomputable def cuts63 : List (Cut (AT alts63)) := []
theorem e63 : ∀ x y, F63 x y = codeJ Try.prog (tableJ (T63)) (Lof 1 0 (cuts63)) body63 (st0 pin63 os63 x y) (endJ Try.prog 1 [.tmp 5] alts63) := by
  rintro ⟨a1, ⟨a2, ⟨⟨⟩, ⟨⟩⟩⟩⟩ ⟨⟨a3, ⟨a4, ⟨⟩⟩⟩, ⟨⟩⟩; kernel_rfl
theorem k63 : FnOK Try.prog 63 pin63 os63 alts63 (F63) :=
  fn_ok (fn := Try.f63) (body := body63) (cuts := cuts63) (k := 0) (C := tableJ (T63)) (C' := tableJ (T63)) (table_ok _) (table_nat _) (table_ok _) mixed (by kernel_rfl) (by kernel_rfl) (by decide) (by kernel_rfl) (fun x => Nat.le_of_ble_eq_true (by kernel_rfl))
    (fun c h => by cases h) (fun c h => by cases h) (e63)
noncomputable def E63 : Entry Try.prog := ⟨63, pin63, os63, alts63, F63, k63, rfl⟩
/-! 43 keeper -/
abbrev pin43 : VPL := (.cons (.agg (.cons (.int .i64) (.cons (.arr .u64 3) .nil))) .nil)
abbrev os43 : List OP := []
abbrev alts43 : List Alt := [(.fn 63 (.cons (.ptr 0 0) .nil), [.box (.cons (.int .i64) (.cons (.arr .u64 3) .nil)) true])]
noncomputable def body43 : Code := match Try.f43.body with
  | some c => c
  | none => .skip
def F43 : pin43.T → OPL.T os43 → Option (AT alts43)
  | ((a1, (a2, ())), ()), () =>
    some (((), ()), (a1, a2, ()), ())
noncomputable def T43 : List (Entry Try.prog) := []
noncomputable def cuts43 : List (Cut (AT alts43)) := []
theorem e43 : ∀ x y, F43 x y = codeJ Try.prog (tableJ (T43)) (Lof 0 0 (cuts43)) body43 (st0 pin43 os43 x y) (endJ Try.prog 0 [.tmp 2] alts43) := by
  rintro ⟨⟨a1, ⟨a2, ⟨⟩⟩⟩, ⟨⟩⟩ ⟨⟩; kernel_rfl
theorem k43 : FnOK Try.prog 43 pin43 os43 alts43 (F43) :=
  fn_ok (fn := Try.f43) (body := body43) (cuts := cuts43) (k := 0) (C := tableJ (T43)) (C' := tableJ (T43)) (table_ok _) (table_nat _) (table_ok _) mixed (by kernel_rfl) (by kernel_rfl) (by decide) (by kernel_rfl) (fun x => Nat.le_of_ble_eq_true (by kernel_rfl))
    (fun c h => by cases h) (fun c h => by cases h) (e43)
noncomputable def E43 : Entry Try.prog := ⟨43, pin43, os43, alts43, F43, k43, rfl⟩
/-! 47 known -/
abbrev pin47 : VPL := .nil
abbrev os47 : List OP := []
abbrev alts47 : List Alt := [(.full 0, [.row (.many [.str, .int .i64, .arr .u64 3]) true])]
noncomputable def body47 : Code := match Try.f47.body with
  | some c => c
  | none => .skip
def F47 : pin47.T → OPL.T os47 → Option (AT alts47)
  | (), () =>
    some
      ((),
        [([(114 : Int), (50 : Int), (51 : Int)], (2 : Int),
            List.set (List.set (List.replicate (3 : Nat) (0 : Int)) (0 : Nat) (1 : Int)) (1 : Nat) (3 : Int)),
          ([(114 : Int), (51 : Int), (52 : Int)], (3 : Int),
            List.set (List.set (List.replicate (3 : Nat) (0 : Int)) (0 : Nat) (5 : Int)) (1 : Nat) (3 : Int)),
          ([(114 : Int), (53 : Int), (54 : Int)], (5 : Int),
            List.set (List.set (List.replicate (3 : Nat) (0 : Int)) (0 : Nat) (21 : Int)) (1 : Nat) (11 : Int)),
          ([(114 : Int), (55 : Int), (56 : Int)], (7 : Int),
            List.set (List.set (List.replicate (3 : Nat) (0 : Int)) (0 : Nat) (81 : Int)) (1 : Nat) (47 : Int))],
        ())
noncomputable def T47 : List (Entry Try.prog) := []
noncomputable def cuts47 : List (Cut (AT alts47)) := []
theorem e47 : ∀ x y, F47 x y = codeJ Try.prog (tableJ (T47)) (Lof 0 0 (cuts47)) body47 (st0 pin47 os47 x y) (endJ Try.prog 0 [.tmp 0] alts47) := by
  rintro ⟨⟩ ⟨⟩; kernel_rfl
theorem k47 : FnOK Try.prog 47 pin47 os47 alts47 (F47) :=
  fn_ok (fn := Try.f47) (body := body47) (cuts := cuts47) (k := 0) (C := tableJ (T47)) (C' := tableJ (T47)) (table_ok _) (table_nat _) (table_ok _) mixed (by kernel_rfl) (by kernel_rfl) (by decide) (by kernel_rfl) (fun x => Nat.le_of_ble_eq_true (by kernel_rfl))
    (fun c h => by cases h) (fun c h => by cases h) (e47)
noncomputable def E47 : Entry Try.prog := ⟨47, pin47, os47, alts47, F47, k47, rfl⟩
/-! 48 whole -/
abbrev pin48 : VPL := (.cons (.agg (.cons (.int .i64) (.cons (.arr .u64 3) .nil))) (.cons (.int .i64) .nil))
abbrev os48 : List OP := []
abbrev alts48 : List Alt := [(.bool, [])]
abbrev ps48_2 : VPL := (.cons (.int .i64) (.cons (.ptr 0 0) (.cons (.full 1) (.cons (.int .i64) (.cons (.int .i64) .nil)))))
abbrev os48_2 : List OP := [.box (.cons (.int .i64) (.cons (.arr .u64 3) .nil)) true, .row (.many [.str, .int .i64, .arr .u64 3]) true]
noncomputable def body48 : Code := match Try.f48.body with
  | some c => c
  | none => .skip
def L48_2 : Nat → ps48_2.T → OPL.T os48_2 → Option (AT alts48)
  | 0, _, _ => none
  | k + 1, (a1, ((), ((), (a2, (a3, ()))))), ((a4, (a5, ())), (a6, ())) =>
    if decide (a3 < a2) = true then
      if (0 : Int) ≤ a3 ∧ a3 < (↑(List.length a6) : Int) then
        if Int.toNat a3 < List.length a6 then
          if decide (a1 = (2 : Int)) = true then
            if
                (decide
                      ((Prod.snd
                            (List.getD (Prod.fst (Prod.snd ((a4, a5, ()), a6, ())))
                              (Int.toNat (Prod.fst (Prod.snd (Prod.snd (Prod.snd (Prod.snd (a1, (), (), a2, a3, ())))))))
                              (EK.dflt (EK.many [SK.str, SK.int IntKind.i64, SK.arr IntKind.u64 (3 : Nat)])))).1 =
                        a4) &&
                    (decide
                        ((Prod.snd
                              (List.getD (Prod.fst (Prod.snd ((a4, a5, ()), a6, ())))
                                (Int.toNat (Prod.fst (Prod.snd (Prod.snd (Prod.snd (Prod.snd (a1, (), (), a2, a3, ())))))))
                                (EK.dflt (EK.many [SK.str, SK.int IntKind.i64, SK.arr IntKind.u64 (3 : Nat)])))).2 =
                          a5) &&
                      true)) =
                  true then
              some (true, ())
            else L48_2 k (a1, (), (), a2, IntKind.wrap IntKind.i64 (a3 + (1 : Int)), ()) ((a4, a5, ()), a6, ())
          else L48_2 k (a1, (), (), a2, IntKind.wrap IntKind.i64 (a3 + (1 : Int)), ()) ((a4, a5, ()), a6, ())
        else none
      else none
    else some (false, ())
def F48 (k : Nat) : pin48.T → OPL.T os48 → Option (AT alts48)
  | ((a1, (a2, ())), (a3, ())), () =>
    Option.bind (F47 () ()) fun val =>
      L48_2 k (a3, (), (), (↑(List.length (Prod.snd val).1) : Int), (0 : Int), ()) ((a1, a2, ()), (Prod.snd val).1, ())
noncomputable def T48 : List (Entry Try.prog) := [E47]
noncomputable def cuts48 : List (Cut (AT alts48)) := [⟨2, [1, 2, 7, 8, 9], ps48_2, os48_2, L48_2⟩]
theorem s48_2 : ∀ k x y, L48_2 (k + 1) x y = roundJ Try.prog (tableJ (T48)) (Lof 0 k (cuts48)) 2 body48 (endJ Try.prog 0 [.tmp 4] alts48) (stAt [1, 2, 7, 8, 9] ps48_2 os48_2 x y) := by
  rintro k ⟨a1, ⟨⟨⟩, ⟨⟨⟩, ⟨a2, ⟨a3, ⟨⟩⟩⟩⟩⟩⟩ ⟨⟨a4, ⟨a5, ⟨⟩⟩⟩, ⟨a6, ⟨⟩⟩⟩; kernel_rfl
theorem e48 (k : Nat) : ∀ x y, F48 k x y = codeJ Try.prog (tableJ (T48)) (Lof 0 k (cuts48)) body48 (st0 pin48 os48 x y) (endJ Try.prog 0 [.tmp 4] alts48) := by
  rintro ⟨⟨a1, ⟨a2, ⟨⟩⟩⟩, ⟨a3, ⟨⟩⟩⟩ ⟨⟩; kernel_rfl
theorem k48 (k : Nat) : FnOK Try.prog 48 pin48 os48 alts48 (F48 k) :=
  fn_ok (fn := Try.f48) (body := body48) (cuts := cuts48) (k := k) (C := tableJ (T48)) (C' := tableJ (T48)) (table_ok _) (table_nat _) (table_ok _) mixed (by kernel_rfl) (by kernel_rfl) (by decide) (by kernel_rfl) (fun x => Nat.le_of_ble_eq_true (by kernel_rfl))
    (List.forall_mem_cons.2 ⟨fun x y => rfl, fun c h => by cases h⟩) (List.forall_mem_cons.2 ⟨s48_2, fun c h => by cases h⟩) (e48 k)
noncomputable def E48 (k : Nat) : Entry Try.prog := ⟨48, pin48, os48, alts48, F48 k, k48 k, rfl⟩
/-! 28 Check -/
abbrev pin28 : VPL := (.cons (.agg (.cons (.int .i64) (.cons (.arr .u64 3) .nil))) (.cons (.int .i64) .nil))
abbrev os28 : List OP := []
abbrev alts28 : List Alt := [(.int .i64, [])]
abbrev ps28_9 : VPL := (.cons (.int .i64) (.cons (.ptr 0 0) (.cons (.int .u64) (.cons (.arr .u64 3) (.cons (.int .i64) .nil)))))
abbrev os28_9 : List OP := [.box (.cons (.int .i64) (.cons (.arr .u64 3) .nil)) true]
noncomputable def body28 : Code := match Try.f28.body with
  | some c => c
  | none => .skip
def L28_9 (K : Nat) : Nat → ps28_9.T → OPL.T os28_9 → Option (AT alts28)
  | 0, _, _ => none
  | k + 1, (a1, ((), (a2, (a3, (a4, ()))))), ((a5, (a6, ())), ()) =>
    if decide (a4 < (3 : Int)) = true then
      if (0 : Int) ≤ a4 ∧ a4 < (3 : Int) then
        if decide (a1 ≤ a4) = true then
          if (!decide (List.getD a3 (Int.toNat a4) (0 : Int) = (0 : Int))) = true then some ((340 : Int), ())
          else
            if decide (a5 < (64 : Int)) = true then
              if a5 < (0 : Int) then none
              else
                if (!decide (shr' IntKind.u64 (List.getD a3 (Int.toNat a4) (0 : Int)) a5 = (0 : Int))) = true then
                  some ((340 : Int), ())
                else
                  (L28_9 K) k
                    (a1, (),
                      IntKind.wrap IntKind.u64
                        (↑(BitVec.toNat
                              (BitVec.ofInt (64 : Nat) a2 |||
                                BitVec.ofInt (64 : Nat) (List.getD a3 (Int.toNat a4) (0 : Int)))) :
                          Int),
                      a3, IntKind.wrap IntKind.i64 (a4 + (1 : Int)), ())
                    ((a5, a6, ()), ())
            else
              (L28_9 K) k
                (a1, (),
                  IntKind.wrap IntKind.u64
                    (↑(BitVec.toNat
                          (BitVec.ofInt (64 : Nat) a2 |||
                            BitVec.ofInt (64 : Nat) (List.getD a3 (Int.toNat a4) (0 : Int)))) :
                      Int),
                  a3, IntKind.wrap IntKind.i64 (a4 + (1 : Int)), ())
                ((a5, a6, ()), ())
        else
          if decide (a5 < (64 : Int)) = true then
            if a5 < (0 : Int) then none
            else
              if (!decide (shr' IntKind.u64 (List.getD a3 (Int.toNat a4) (0 : Int)) a5 = (0 : Int))) = true then
                some ((340 : Int), ())
              else
                (L28_9 K) k
                  (a1, (),
                    IntKind.wrap IntKind.u64
                      (↑(BitVec.toNat
                            (BitVec.ofInt (64 : Nat) a2 |||
                              BitVec.ofInt (64 : Nat) (List.getD a3 (Int.toNat a4) (0 : Int)))) :
                        Int),
                    a3, IntKind.wrap IntKind.i64 (a4 + (1 : Int)), ())
                  ((a5, a6, ()), ())
          else
            (L28_9 K) k
              (a1, (),
                IntKind.wrap IntKind.u64
                  (↑(BitVec.toNat
                        (BitVec.ofInt (64 : Nat) a2 ||| BitVec.ofInt (64 : Nat) (List.getD a3 (Int.toNat a4) (0 : Int)))) :
                    Int),
                a3, IntKind.wrap IntKind.i64 (a4 + (1 : Int)), ())
              ((a5, a6, ()), ())
      else none
    else if decide (a2 = (0 : Int)) = true then some ((340 : Int), ()) else some ((0 : Int), ())
def F28 (k : Nat) : pin28.T → OPL.T os28 → Option (AT alts28)
  | ((a1, (a2, ())), (a3, ())), () =>
    if (!decide (a3 = (2 : Int))) = true then
      if (!decide (a3 = (3 : Int))) = true then some ((1 : Int), ())
      else
        Option.bind ((F48 k) ((a1, a2, ()), a3, ()) ()) fun val =>
          if val.1 = true then some ((0 : Int), ())
          else
            if decide (a1 < (1 : Int)) = true then some ((340 : Int), ())
            else
              if decide ((64 : Int) < a1) = true then some ((340 : Int), ())
              else (L28_9 k) k (a3, (), (0 : Int), a2, (0 : Int), ()) ((a1, a2, ()), ())
    else
      Option.bind ((F48 k) ((a1, a2, ()), a3, ()) ()) fun val =>
        if val.1 = true then some ((0 : Int), ())
        else
          if decide (a1 < (1 : Int)) = true then some ((340 : Int), ())
          else
            if decide ((64 : Int) < a1) = true then some ((340 : Int), ())
            else (L28_9 k) k (a3, (), (0 : Int), a2, (0 : Int), ()) ((a1, a2, ()), ())
noncomputable def T28 (K : Nat) : List (Entry Try.prog) := [E48 K]
noncomputable def cuts28 (K : Nat) : List (Cut (AT alts28)) := [⟨9, [1, 2, 5, 26, 27], ps28_9, os28_9, L28_9 K⟩]
theorem s28_9 (K : Nat) : ∀ k x y, L28_9 K (k + 1) x y = roundJ Try.prog (tableJ (T28 K)) (Lof 0 k (cuts28 K)) 9 body28 (endJ Try.prog 0 [.tmp 4] alts28) (stAt [1, 2, 5, 26, 27] ps28_9 os28_9 x y) := by
  rintro k ⟨a1, ⟨⟨⟩, ⟨a2, ⟨a3, ⟨a4, ⟨⟩⟩⟩⟩⟩⟩ ⟨⟨a5, ⟨a6, ⟨⟩⟩⟩, ⟨⟩⟩; kernel_rfl
theorem e28 (k : Nat) : ∀ x y, F28 k x y = codeJ Try.prog (tableJ (T28 k)) (Lof 0 k (cuts28 k)) body28 (st0 pin28 os28 x y) (endJ Try.prog 0 [.tmp 4] alts28) := by
  rintro ⟨⟨a1, ⟨a2, ⟨⟩⟩⟩, ⟨a3, ⟨⟩⟩⟩ ⟨⟩; kernel_rfl
theorem k28 (k : Nat) : FnOK Try.prog 28 pin28 os28 alts28 (F28 k) :=
  fn_ok (fn := Try.f28) (body := body28) (cuts := cuts28 k) (k := k) (C := tableJ (T28 k)) (C' := tableJ (T28 k)) (table_ok _) (table_nat _) (table_ok _) mixed (by kernel_rfl) (by kernel_rfl) (by decide) (by kernel_rfl) (fun x => Nat.le_of_ble_eq_true (by kernel_rfl))
    (List.forall_mem_cons.2 ⟨fun x y => rfl, fun c h => by cases h⟩) (List.forall_mem_cons.2 ⟨s28_9 k, fun c h => by cases h⟩) (e28 k)
noncomputable def E28 (k : Nat) : Entry Try.prog := ⟨28, pin28, os28, alts28, F28 k, k28 k, rfl⟩
/-! 13 Cut -/
abbrev pin13 : VPL := (.cons (.agg (.cons (.int .i64) (.cons (.arr .u64 3) .nil))) (.cons (.int .i64) (.cons (.lst false (.one (.int .u8))) .nil)))
abbrev os13 : List OP := []
abbrev alts13 : List Alt := [(.tup (.cons (.full 0) (.cons (.int .i64) .nil)), [.row (.one (.int .u8)) true])]
abbrev ps13_9 : VPL := (.cons (.int .i64) (.cons (.fn 63 (.cons (.ptr 0 0) .nil)) (.cons (.full 1) (.cons (.lst false (.one (.int .u8))) (.cons (.int .i64) (.cons (.int .i64) .nil))))))
abbrev os13_9 : List OP := [.box (.cons (.int .i64) (.cons (.arr .u64 3) .nil)) true, .row (.one (.int .u8)) true]
noncomputable def body13 : Code := match Try.f13.body with
  | some c => c
  | none => .skip
def L13_9 (K : Nat) : Nat → ps13_9.T → OPL.T os13_9 → Option (AT alts13)
  | 0, _, _ => none
  | k + 1, (a1, (((), ()), ((), (a2, (a3, (a4, ())))))), ((a5, (a6, ())), (a7, ())) =>
    if decide (a4 < a3) = true then
      if (0 : Int) ≤ a4 ∧ a4 < (↑(List.length a2) : Int) then
        if a1 = (0 : Int) then none
        else
          if a1 = (0 : Int) then none
          else
            Option.bind (F63 (IntKind.wrap IntKind.i64 (Int.tdiv a4 a1), Int.tmod a4 a1, (), ()) ((a5, a6, ()), ()))
              fun val =>
              if val.1 = true then
                if (List.length a7 + (1 : Nat)) * (1 : Nat) ≤ (140737488355328 : Nat) then
                  (L13_9 K) k (a1, ((), ()), (), a2, a3, IntKind.wrap IntKind.i64 (a4 + (1 : Int)), ())
                    ((a5, a6, ()), a7 ++ [List.getD a2 (Int.toNat a4) (0 : Int)], ())
                else none
              else (L13_9 K) k (a1, ((), ()), (), a2, a3, IntKind.wrap IntKind.i64 (a4 + (1 : Int)), ()) ((a5, a6, ()), a7, ())
      else none
    else some (((), (0 : Int), ()), a7, ())
def F13 (k : Nat) : pin13.T → OPL.T os13 → Option (AT alts13)
  | ((a1, (a2, ())), (a3, (a4, ()))), () =>
    Option.bind ((F28 k) ((a1, a2, ()), a3, ()) ()) fun val =>
      if (!decide (val.1 = (0 : Int))) = true then some (((), val.1, ()), [], ())
      else
        if a3 = (0 : Int) then none
        else
          if (!decide (Int.tmod (↑(List.length a4) : Int) a3 = (0 : Int))) = true then some (((), (5 : Int), ()), [], ())
          else
            Option.bind (F43 ((a1, a2, ()), ()) ()) fun val =>
              (L13_9 k) k (a3, ((), ()), (), a4, (↑(List.length a4) : Int), (0 : Int), ())
                (((Prod.fst (Prod.snd val)).1, (Prod.snd (Prod.fst (Prod.snd val))).1, ()), [], ())
noncomputable def T13 (K : Nat) : List (Entry Try.prog) := [E28 K, E43, E63]
noncomputable def cuts13 (K : Nat) : List (Cut (AT alts13)) := [⟨9, [1, 9, 10, 26, 27, 28], ps13_9, os13_9, L13_9 K⟩]
theorem s13_9 (K : Nat) : ∀ k x y, L13_9 K (k + 1) x y = roundJ Try.prog (tableJ (T13 K)) (Lof 0 k (cuts13 K)) 9 body13 (endJ Try.prog 0 [.tmp 6, .tmp 7] alts13) (stAt [1, 9, 10, 26, 27, 28] ps13_9 os13_9 x y) := by
  rintro k ⟨a1, ⟨⟨⟨⟩, ⟨⟩⟩, ⟨⟨⟩, ⟨a2, ⟨a3, ⟨a4, ⟨⟩⟩⟩⟩⟩⟩⟩ ⟨⟨a5, ⟨a6, ⟨⟩⟩⟩, ⟨a7, ⟨⟩⟩⟩; kernel_rfl
theorem e13 (k : Nat) : ∀ x y, F13 k x y = codeJ Try.prog (tableJ (T13 k)) (Lof 0 k (cuts13 k)) body13 (st0 pin13 os13 x y) (endJ Try.prog 0 [.tmp 6, .tmp 7] alts13) := by
  rintro ⟨⟨a1, ⟨a2, ⟨⟩⟩⟩, ⟨a3, ⟨a4, ⟨⟩⟩⟩⟩ ⟨⟩; kernel_rfl
theorem k13 (k : Nat) : FnOK Try.prog 13 pin13 os13 alts13 (F13 k) :=
  fn_ok (fn := Try.f13) (body := body13) (cuts := cuts13 k) (k := k) (C := tableJ (T13 k)) (C' := tableJ (T13 k)) (table_ok _) (table_nat _) (table_ok _) mixed (by kernel_rfl) (by kernel_rfl) (by decide) (by kernel_rfl) (fun x => Nat.le_of_ble_eq_true (by kernel_rfl))
    (List.forall_mem_cons.2 ⟨fun x y => rfl, fun c h => by cases h⟩) (List.forall_mem_cons.2 ⟨s13_9 k, fun c h => by cases h⟩) (e13 k)
noncomputable def E13 (k : Nat) : Entry Try.prog := ⟨13, pin13, os13, alts13, F13 k, k13 k, rfl⟩
/-! 15 num -/
abbrev pin15 : VPL := (.cons (.int .i64) .nil)
abbrev os15 : List OP := []
abbrev alts15 : List Alt := [(.int .i64, [])]
noncomputable def body15 : Code := match Try.f15.body with
  | some c => c
  | none => .skip
def F15 : pin15.T → OPL.T os15 → Option (AT alts15)
  | (a1, ()), () =>
    some (a1, ())
noncomputable def T15 : List (Entry Try.prog) := []
noncomputable def cuts15 : List (Cut (AT alts15)) := []
theorem e15 : ∀ x y, F15 x y = codeJ Try.prog (tableJ (T15)) (Lof 0 0 (cuts15)) body15 (st0 pin15 os15 x y) (endJ Try.prog 0 [.tmp 2] alts15) := by
  rintro ⟨a1, ⟨⟩⟩ ⟨⟩; kernel_rfl
theorem k15 : FnOK Try.prog 15 pin15 os15 alts15 (F15) :=
  fn_ok (fn := Try.f15) (body := body15) (cuts := cuts15) (k := 0) (C := tableJ (T15)) (C' := tableJ (T15)) (table_ok _) (table_nat _) (table_ok _) mixed (by kernel_rfl) (by kernel_rfl) (by decide) (by kernel_rfl) (fun x => Nat.le_of_ble_eq_true (by kernel_rfl))
    (fun c h => by cases h) (fun c h => by cases h) (e15)
noncomputable def E15 : Entry Try.prog := ⟨15, pin15, os15, alts15, F15, k15, rfl⟩
/-! 16 same -/
abbrev pin16 : VPL := (.cons (.lst false (.one (.int .u8))) (.cons (.lst false (.one (.int .u8))) .nil))
abbrev os16 : List OP := []
abbrev alts16 : List Alt := [(.bool, [])]
noncomputable def body16 : Code := match Try.f16.body with
  | some c => c
  | none => .skip
def F16 : pin16.T → OPL.T os16 → Option (AT alts16)
  | (a1, (a2, ())), () =>
    if List.length a1 ≤ (9223372036854775807 : Nat) then
      if List.length a2 ≤ (9223372036854775807 : Nat) then some (decide (a1 = a2), ()) else none
    else none
noncomputable def T16 : List (Entry Try.prog) := []
noncomputable def cuts16 : List (Cut (AT alts16)) := []
theorem e16 : ∀ x y, F16 x y = codeJ Try.prog (tableJ (T16)) (Lof 0 0 (cuts16)) body16 (st0 pin16 os16 x y) (endJ Try.prog 0 [.tmp 4] alts16) := by
  rintro ⟨a1, ⟨a2, ⟨⟩⟩⟩ ⟨⟩; kernel_rfl
theorem k16 : FnOK Try.prog 16 pin16 os16 alts16 (F16) :=
  fn_ok (fn := Try.f16) (body := body16) (cuts := cuts16) (k := 0) (C := tableJ (T16)) (C' := tableJ (T16)) (table_ok _) (table_nat _) (table_ok _) mixed (by kernel_rfl) (by kernel_rfl) (by decide) (by kernel_rfl) (fun x => Nat.le_of_ble_eq_true (by kernel_rfl))
    (fun c h => by cases h) (fun c h => by cases h) (e16)
noncomputable def E16 : Entry Try.prog := ⟨16, pin16, os16, alts16, F16, k16, rfl⟩
/-! 45 count -/
abbrev pin45 : VPL := (.cons (.agg (.cons (.int .i64) (.cons (.arr .u64 3) .nil))) (.cons (.int .i64) (.cons (.int .i64) .nil)))
abbrev os45 : List OP := []
abbrev alts45 : List Alt := [(.int .i64, [])]
abbrev ps45_7 : VPL := (.cons (.int .i64) (.cons (.fn 63 (.cons (.ptr 0 0) .nil)) (.cons (.int .i64) (.cons (.int .i64) (.cons (.int .i64) (.cons (.int .i64) (.cons (.int .i64) (.cons (.int .i64) .nil))))))))
abbrev os45_7 : List OP := [.box (.cons (.int .i64) (.cons (.arr .u64 3) .nil)) true]
abbrev ps45_4 : VPL := (.cons (.int .i64) (.cons (.fn 63 (.cons (.ptr 0 0) .nil)) (.cons (.int .i64) (.cons (.int .i64) (.cons (.int .i64) .nil)))))
abbrev os45_4 : List OP := [.box (.cons (.int .i64) (.cons (.arr .u64 3) .nil)) true]
noncomputable def body45 : Code := match Try.f45.body with
  | some c => c
  | none => .skip
mutual
def L45_7 : Nat → ps45_7.T → OPL.T os45_7 → Option (AT alts45)
  | 0, _, _ => none
  | k + 1, (a1, (((), ()), (a2, (a3, (a4, (a5, (a6, (a7, ())))))))), ((a8, (a9, ())), ()) =>
    if decide (a7 < a6) = true then
      Option.bind (F63 (a3, a7, (), ()) ((a8, a9, ()), ())) fun val =>
        if val.1 = true then
          L45_7 k
            (a1, ((), ()), IntKind.wrap IntKind.i64 (a2 + (1 : Int)), a3, a4, a5, a6,
              IntKind.wrap IntKind.i64 (a7 + (1 : Int)), ())
            ((a8, a9, ()), ())
        else L45_7 k (a1, ((), ()), a2, a3, a4, a5, a6, IntKind.wrap IntKind.i64 (a7 + (1 : Int)), ()) ((a8, a9, ()), ())
    else L45_4 k (a1, ((), ()), a2, a4, IntKind.wrap IntKind.i64 (a5 + (1 : Int)), ()) ((a8, a9, ()), ())
def L45_4 : Nat → ps45_4.T → OPL.T os45_4 → Option (AT alts45)
  | 0, _, _ => none
  | k + 1, (a1, (((), ()), (a2, (a3, (a4, ()))))), ((a5, (a6, ())), ()) =>
    if decide (a4 < a3) = true then L45_7 k (a1, ((), ()), a2, a4, a3, a4, a1, (0 : Int), ()) ((a5, a6, ()), ())
    else some (a2, ())
end
def F45 (k : Nat) : pin45.T → OPL.T os45 → Option (AT alts45)
  | ((a1, (a2, ())), (a3, (a4, ()))), () =>
    Option.bind (F43 ((a1, a2, ()), ()) ()) fun val =>
      L45_4 k (a3, ((), ()), (0 : Int), a4, (0 : Int), ())
        (((Prod.fst (Prod.snd val)).1, (Prod.snd (Prod.fst (Prod.snd val))).1, ()), ())
noncomputable def T45 : List (Entry Try.prog) := [E43, E63]
noncomputable def cuts45 : List (Cut (AT alts45)) := [⟨7, [1, 7, 8, 9, 13, 14, 17, 18], ps45_7, os45_7, L45_7⟩, ⟨4, [1, 7, 8, 13, 14], ps45_4, os45_4, L45_4⟩]
theorem s45_7 : ∀ k x y, L45_7 (k + 1) x y = roundJ Try.prog (tableJ (T45)) (Lof 0 k (cuts45)) 7 body45 (endJ Try.prog 0 [.tmp 6] alts45) (stAt [1, 7, 8, 9, 13, 14, 17, 18] ps45_7 os45_7 x y) := by
  rintro k ⟨a1, ⟨⟨⟨⟩, ⟨⟩⟩, ⟨a2, ⟨a3, ⟨a4, ⟨a5, ⟨a6, ⟨a7, ⟨⟩⟩⟩⟩⟩⟩⟩⟩⟩ ⟨⟨a8, ⟨a9, ⟨⟩⟩⟩, ⟨⟩⟩; kernel_rfl
theorem s45_4 : ∀ k x y, L45_4 (k + 1) x y = roundJ Try.prog (tableJ (T45)) (Lof 0 k (cuts45)) 4 body45 (endJ Try.prog 0 [.tmp 6] alts45) (stAt [1, 7, 8, 13, 14] ps45_4 os45_4 x y) := by
  rintro k ⟨a1, ⟨⟨⟨⟩, ⟨⟩⟩, ⟨a2, ⟨a3, ⟨a4, ⟨⟩⟩⟩⟩⟩⟩ ⟨⟨a5, ⟨a6, ⟨⟩⟩⟩, ⟨⟩⟩; kernel_rfl
theorem e45 (k : Nat) : ∀ x y, F45 k x y = codeJ Try.prog (tableJ (T45)) (Lof 0 k (cuts45)) body45 (st0 pin45 os45 x y) (endJ Try.prog 0 [.tmp 6] alts45) := by
  rintro ⟨⟨a1, ⟨a2, ⟨⟩⟩⟩, ⟨a3, ⟨a4, ⟨⟩⟩⟩⟩ ⟨⟩; kernel_rfl
theorem k45 (k : Nat) : FnOK Try.prog 45 pin45 os45 alts45 (F45 k) :=
  fn_ok (fn := Try.f45) (body := body45) (cuts := cuts45) (k := k) (C := tableJ (T45)) (C' := tableJ (T45)) (table_ok _) (table_nat _) (table_ok _) mixed (by kernel_rfl) (by kernel_rfl) (by decide) (by kernel_rfl) (fun x => Nat.le_of_ble_eq_true (by kernel_rfl))
    (List.forall_mem_cons.2 ⟨fun x y => rfl, List.forall_mem_cons.2 ⟨fun x y => rfl, fun c h => by cases h⟩⟩) (List.forall_mem_cons.2 ⟨s45_7, List.forall_mem_cons.2 ⟨s45_4, fun c h => by cases h⟩⟩) (e45 k)
noncomputable def E45 (k : Nat) : Entry Try.prog := ⟨45, pin45, os45, alts45, F45 k, k45 k, rfl⟩
/-! 20 Fill -/
abbrev pin20 : VPL := (.cons (.agg (.cons (.int .i64) (.cons (.arr .u64 3) .nil))) (.cons (.int .i64) (.cons (.int .i64) (.cons (.int .i64) (.cons (.lst false (.one (.int .u8))) .nil)))))
abbrev os20 : List OP := []
abbrev alts20 : List Alt := [(.tup (.cons (.full 0) (.cons (.int .i64) .nil)), [.row (.one (.int .u8)) true])]
abbrev ps20_9 : VPL := (.cons (.int .i64) (.cons (.int .i64) (.cons (.int .i64) (.cons (.lst false (.one (.int .u8))) (.cons (.ptr 0 0) (.cons (.lst false (.one (.int .u8))) (.cons (.int .i64) (.cons (.int .i64) .nil))))))))
abbrev os20_9 : List OP := [.box (.cons (.int .i64) (.cons (.arr .u64 3) .nil)) true]
abbrev ps20_18 : VPL := (.cons (.int .i64) (.cons (.int .i64) (.cons (.lst false (.one (.int .u8))) (.cons (.fn 63 (.cons (.ptr 0 0) .nil)) (.cons (.full 1) (.cons (.int .i64) (.cons (.int .i64) (.cons (.int .i64) .nil))))))))
abbrev os20_18 : List OP := [.box (.cons (.int .i64) (.cons (.arr .u64 3) .nil)) true, .row (.one (.int .u8)) true]
noncomputable def body20 : Code := match Try.f20.body with
  | some c => c
  | none => .skip
def L20_18 (K : Nat) : Nat → ps20_18.T → OPL.T os20_18 → Option (AT alts20)
  | 0, _, _ => none
  | k + 1, (a1, (a2, (a3, (((), ()), ((), (a4, (a5, (a6, ())))))))), ((a7, (a8, ())), (a9, ())) =>
    if decide (a6 < a5) = true then
      if (0 : Int) ≤ a6 ∧ a6 < (↑(List.length a9) : Int) then
        if Int.toNat a6 < List.length a9 then
          if a1 = (0 : Int) then none
          else
            if a1 = (0 : Int) then none
            else
              Option.bind (F63 (IntKind.wrap IntKind.i64 (Int.tdiv a6 a1), Int.tmod a6 a1, (), ()) ((a7, a8, ()), ()))
                fun val =>
                if val.1 = true then
                  if (0 : Int) ≤ a4 ∧ a4 < (↑(List.length a3) : Int) then
                    if
                        (0 : Int) ≤ a6 ∧
                          a6 < (↑(List.length (List.set a9 (Int.toNat a6) (IntKind.wrap IntKind.u8 a2))) : Int) then
                      if Int.toNat a6 < List.length (List.set a9 (Int.toNat a6) (IntKind.wrap IntKind.u8 a2)) then
                        (L20_18 K) k
                          (a1, a2, a3, ((), ()), (), IntKind.wrap IntKind.i64 (a4 + (1 : Int)), a5,
                            IntKind.wrap IntKind.i64 (a6 + (1 : Int)), ())
                          ((a7, a8, ()),
                            List.set (List.set a9 (Int.toNat a6) (IntKind.wrap IntKind.u8 a2)) (Int.toNat a6)
                              (List.getD a3 (Int.toNat a4) (0 : Int)),
                            ())
                      else none
                    else none
                  else none
                else
                  (L20_18 K) k (a1, a2, a3, ((), ()), (), a4, a5, IntKind.wrap IntKind.i64 (a6 + (1 : Int)), ())
                    ((a7, a8, ()), List.set a9 (Int.toNat a6) (IntKind.wrap IntKind.u8 a2), ())
        else none
      else none
    else some (((), (0 : Int), ()), a9, ())
def L20_9 (K : Nat) : Nat → ps20_9.T → OPL.T os20_9 → Option (AT alts20)
  | 0, _, _ => none
  | k + 1, (a1, (a2, (a3, (a4, ((), (a5, (a6, (a7, ())))))))), ((a8, (a9, ())), ()) =>
    if decide (a7 < a6) = true then
      if (0 : Int) ≤ a7 ∧ a7 < (↑(List.length a5) : Int) then
        if decide (a2 ≤ IntKind.wrap IntKind.i64 (List.getD a5 (Int.toNat a7) (0 : Int))) = true then
          some (((), (91 : Int), ()), [], ())
        else (L20_9 K) k (a1, a2, a3, a4, (), a5, a6, IntKind.wrap IntKind.i64 (a7 + (1 : Int)), ()) ((a8, a9, ()), ())
      else none
    else
      Option.bind (F43 ((a8, a9, ()), ()) ()) fun val =>
        if
            (0 : Int) ≤ IntKind.wrap IntKind.i64 (a1 * a3) ∧
              IntKind.wrap IntKind.i64 (a1 * a3) ≤ IntKind.wrap IntKind.i64 (a1 * a3) ∧
                IntKind.wrap IntKind.i64 (a1 * a3) * (1 : Int) ≤ (140737488355328 : Int) then
          (L20_18 K) k
            (a1, a2, a4, ((), ()), (), (0 : Int),
              (↑(List.length (List.replicate (Int.toNat (IntKind.wrap IntKind.i64 (a1 * a3))) (0 : Int))) : Int), (0 : Int),
              ())
            (((Prod.fst (Prod.snd val)).1, (Prod.snd (Prod.fst (Prod.snd val))).1, ()),
              List.replicate (Int.toNat (IntKind.wrap IntKind.i64 (a1 * a3))) (0 : Int), ())
        else none
def F20 (k : Nat) : pin20.T → OPL.T os20 → Option (AT alts20)
  | ((a1, (a2, ())), (a3, (a4, (a5, (a6, ()))))), () =>
    Option.bind ((F28 k) ((a1, a2, ()), a3, ()) ()) fun val =>
      if (!decide (val.1 = (0 : Int))) = true then some (((), val.1, ()), [], ())
      else
        if decide (a4 < (2 : Int)) = true then some (((), (1 : Int), ()), [], ())
        else
          if decide ((15 : Int) < a4) = true then some (((), (1 : Int), ()), [], ())
          else
            if decide (a5 < (0 : Int)) = true then some (((), (1 : Int), ()), [], ())
            else
              if decide ((1055 : Int) < a5) = true then some (((), (1 : Int), ()), [], ())
              else
                Option.bind ((F45 k) ((a1, a2, ()), a3, a5, ()) ()) fun val =>
                  if (!decide ((↑(List.length a6) : Int) = val.1)) = true then some (((), (5 : Int), ()), [], ())
                  else (L20_9 k) k (a3, a4, a5, a6, (), a6, (↑(List.length a6) : Int), (0 : Int), ()) ((a1, a2, ()), ())
noncomputable def T20 (K : Nat) : List (Entry Try.prog) := [E28 K, E45 K, E43, E63]
noncomputable def cuts20 (K : Nat) : List (Cut (AT alts20)) := [⟨9, [1, 2, 3, 4, 5, 46, 47, 48], ps20_9, os20_9, L20_9 K⟩, ⟨18, [1, 2, 4, 15, 16, 17, 64, 65], ps20_18, os20_18, L20_18 K⟩]
theorem s20_9 (K : Nat) : ∀ k x y, L20_9 K (k + 1) x y = roundJ Try.prog (tableJ (T20 K)) (Lof 0 k (cuts20 K)) 9 body20 (endJ Try.prog 0 [.tmp 10, .tmp 11] alts20) (stAt [1, 2, 3, 4, 5, 46, 47, 48] ps20_9 os20_9 x y) := by
  rintro k ⟨a1, ⟨a2, ⟨a3, ⟨a4, ⟨⟨⟩, ⟨a5, ⟨a6, ⟨a7, ⟨⟩⟩⟩⟩⟩⟩⟩⟩⟩ ⟨⟨a8, ⟨a9, ⟨⟩⟩⟩, ⟨⟩⟩; kernel_rfl
theorem s20_18 (K : Nat) : ∀ k x y, L20_18 K (k + 1) x y = roundJ Try.prog (tableJ (T20 K)) (Lof 0 k (cuts20 K)) 18 body20 (endJ Try.prog 0 [.tmp 10, .tmp 11] alts20) (stAt [1, 2, 4, 15, 16, 17, 64, 65] ps20_18 os20_18 x y) := by
  rintro k ⟨a1, ⟨a2, ⟨a3, ⟨⟨⟨⟩, ⟨⟩⟩, ⟨⟨⟩, ⟨a4, ⟨a5, ⟨a6, ⟨⟩⟩⟩⟩⟩⟩⟩⟩⟩ ⟨⟨a7, ⟨a8, ⟨⟩⟩⟩, ⟨a9, ⟨⟩⟩⟩; kernel_rfl
theorem e20 (k : Nat) : ∀ x y, F20 k x y = codeJ Try.prog (tableJ (T20 k)) (Lof 0 k (cuts20 k)) body20 (st0 pin20 os20 x y) (endJ Try.prog 0 [.tmp 10, .tmp 11] alts20) := by
  rintro ⟨⟨a1, ⟨a2, ⟨⟩⟩⟩, ⟨a3, ⟨a4, ⟨a5, ⟨a6, ⟨⟩⟩⟩⟩⟩⟩ ⟨⟩; kernel_rfl
theorem k20 (k : Nat) : FnOK Try.prog 20 pin20 os20 alts20 (F20 k) :=
  fn_ok (fn := Try.f20) (body := body20) (cuts := cuts20 k) (k := k) (C := tableJ (T20 k)) (C' := tableJ (T20 k)) (table_ok _) (table_nat _) (table_ok _) mixed (by kernel_rfl) (by kernel_rfl) (by decide) (by kernel_rfl) (fun x => Nat.le_of_ble_eq_true (by kernel_rfl))
    (List.forall_mem_cons.2 ⟨fun x y => rfl, List.forall_mem_cons.2 ⟨fun x y => rfl, fun c h => by cases h⟩⟩) (List.forall_mem_cons.2 ⟨s20_9 k, List.forall_mem_cons.2 ⟨s20_18 k, fun c h => by cases h⟩⟩) (e20 k)
noncomputable def E20 (k : Nat) : Entry Try.prog := ⟨20, pin20, os20, alts20, F20 k, k20 k, rfl⟩
/-! 22 Named -/
abbrev pin22 : VPL := (.cons .str .nil)
abbrev os22 : List OP := []
abbrev alts22 : List Alt := [(.tup (.cons (.agg (.cons (.int .i64) (.cons (.arr .u64 3) .nil))) (.cons (.int .i64) .nil)), [])]
abbrev ps22_2 : VPL := (.cons .str (.cons (.ptr 0 0) (.cons (.full 1) (.cons (.int .i64) (.cons (.int .i64) .nil)))))
abbrev os22_2 : List OP := [.box (.cons (.int .i64) (.cons (.arr .u64 3) .nil)) true, .row (.many [.str, .int .i64, .arr .u64 3]) true]
noncomputable def body22 : Code := match Try.f22.body with
  | some c => c
  | none => .skip
def L22_2 : Nat → ps22_2.T → OPL.T os22_2 → Option (AT alts22)
  | 0, _, _ => none
  | k + 1, (a1, ((), ((), (a2, (a3, ()))))), ((a4, (a5, ())), (a6, ())) =>
    if decide (a3 < a2) = true then
      if (0 : Int) ≤ a3 ∧ a3 < (↑(List.length a6) : Int) then
        if Int.toNat a3 < List.length a6 then
          if
              decide
                  ((List.getD (Prod.fst (Prod.snd ((a4, a5, ()), a6, ())))
                        (Int.toNat (Prod.fst (Prod.snd (Prod.snd (Prod.snd (Prod.snd (a1, (), (), a2, a3, ())))))))
                        (EK.dflt (EK.many [SK.str, SK.int IntKind.i64, SK.arr IntKind.u64 (3 : Nat)]))).1 =
                    a1) =
                true then
            some
              ((((Prod.snd
                        (List.getD (Prod.fst (Prod.snd ((a4, a5, ()), a6, ())))
                          (Int.toNat (Prod.fst (Prod.snd (Prod.snd (Prod.snd (Prod.snd (a1, (), (), a2, a3, ())))))))
                          (EK.dflt (EK.many [SK.str, SK.int IntKind.i64, SK.arr IntKind.u64 (3 : Nat)])))).1,
                    (Prod.snd
                        (List.getD (Prod.fst (Prod.snd ((a4, a5, ()), a6, ())))
                          (Int.toNat (Prod.fst (Prod.snd (Prod.snd (Prod.snd (Prod.snd (a1, (), (), a2, a3, ())))))))
                          (EK.dflt (EK.many [SK.str, SK.int IntKind.i64, SK.arr IntKind.u64 (3 : Nat)])))).2,
                    ()),
                  (0 : Int), ()),
                ())
          else L22_2 k (a1, (), (), a2, IntKind.wrap IntKind.i64 (a3 + (1 : Int)), ()) ((a4, a5, ()), a6, ())
        else none
      else none
    else some ((((0 : Int), List.replicate (3 : Nat) (0 : Int), ()), (3 : Int), ()), ())
def F22 (k : Nat) : pin22.T → OPL.T os22 → Option (AT alts22)
  | (a1, ()), () =>
    Option.bind (F47 () ()) fun val =>
      L22_2 k (a1, (), (), (↑(List.length (Prod.snd val).1) : Int), (0 : Int), ())
        (((0 : Int), List.replicate (3 : Nat) (0 : Int), ()), (Prod.snd val).1, ())
noncomputable def T22 : List (Entry Try.prog) := [E47]
noncomputable def cuts22 : List (Cut (AT alts22)) := [⟨2, [0, 2, 6, 7, 8], ps22_2, os22_2, L22_2⟩]
theorem s22_2 : ∀ k x y, L22_2 (k + 1) x y = roundJ Try.prog (tableJ (T22)) (Lof 0 k (cuts22)) 2 body22 (endJ Try.prog 0 [.cell 2 25, .tmp 3] alts22) (stAt [0, 2, 6, 7, 8] ps22_2 os22_2 x y) := by
  rintro k ⟨a1, ⟨⟨⟩, ⟨⟨⟩, ⟨a2, ⟨a3, ⟨⟩⟩⟩⟩⟩⟩ ⟨⟨a4, ⟨a5, ⟨⟩⟩⟩, ⟨a6, ⟨⟩⟩⟩; kernel_rfl
theorem e22 (k : Nat) : ∀ x y, F22 k x y = codeJ Try.prog (tableJ (T22)) (Lof 0 k (cuts22)) body22 (st0 pin22 os22 x y) (endJ Try.prog 0 [.cell 2 25, .tmp 3] alts22) := by
  rintro ⟨a1, ⟨⟩⟩ ⟨⟩; kernel_rfl
theorem k22 (k : Nat) : FnOK Try.prog 22 pin22 os22 alts22 (F22 k) :=
  fn_ok (fn := Try.f22) (body := body22) (cuts := cuts22) (k := k) (C := tableJ (T22)) (C' := tableJ (T22)) (table_ok _) (table_nat _) (table_ok _) mixed (by kernel_rfl) (by kernel_rfl) (by decide) (by kernel_rfl) (fun x => Nat.le_of_ble_eq_true (by kernel_rfl))
    (List.forall_mem_cons.2 ⟨fun x y => rfl, fun c h => by cases h⟩) (List.forall_mem_cons.2 ⟨s22_2, fun c h => by cases h⟩) (e22 k)
noncomputable def E22 (k : Nat) : Entry Try.prog := ⟨22, pin22, os22, alts22, F22 k, k22 k, rfl⟩
/-! 19 live -/
abbrev pin19 : VPL := .nil
abbrev os19 : List OP := []
abbrev alts19 : List Alt := [(.bool, [])]
noncomputable def body19 : Code := match Try.f19.body with
  | some c => c
  | none => .skip
def F19 (k : Nat) : pin19.T → OPL.T os19 → Option (AT alts19)
  | (), () =>
    Option.bind ((F22 k) ([(114 : Int), (51 : Int), (52 : Int)], ()) ()) fun val =>
      Option.bind
        ((F13 k)
          (((Prod.fst (Prod.fst val)).1, (Prod.snd (Prod.fst (Prod.fst val))).1, ()), (2 : Int),
            [(1 : Int), (2 : Int), (3 : Int), (4 : Int), (5 : Int), (6 : Int)], ())
          ())
        fun val_1 =>
        Option.bind
          ((F20 k)
            (((Prod.fst (Prod.fst val)).1, (Prod.snd (Prod.fst (Prod.fst val))).1, ()), (2 : Int), (2 : Int), (3 : Int),
              [(1 : Int), (0 : Int), (1 : Int), (1 : Int)], ())
            ())
          fun val_2 =>
          Option.bind (F15 ((Prod.snd (Prod.fst val)).1, ()) ()) fun val =>
            if decide (val.1 = (0 : Int)) = true then
              Option.bind (F15 ((Prod.snd (Prod.fst val_1)).1, ()) ()) fun val =>
                if decide (val.1 = (0 : Int)) = true then
                  Option.bind (F16 ((Prod.snd val_1).1, [(1 : Int), (2 : Int), (4 : Int), (5 : Int)], ()) ()) fun val =>
                    if val.1 = true then
                      Option.bind (F15 ((Prod.snd (Prod.fst val_2)).1, ()) ()) fun val =>
                        if decide (val.1 = (0 : Int)) = true then
                          Option.bind
                            (F16
                              ((Prod.snd val_2).1, [(1 : Int), (0 : Int), (2 : Int), (1 : Int), (1 : Int), (2 : Int)], ())
                              ())
                            fun val => some (val.1, ())
                        else some (false, ())
                    else some (false, ())
                else some (false, ())
            else some (false, ())
noncomputable def T19 (K : Nat) : List (Entry Try.prog) := [E22 K, E13 K, E20 K, E15, E16]
noncomputable def cuts19 (K : Nat) : List (Cut (AT alts19)) := []
theorem e19 (k : Nat) : ∀ x y, F19 k x y = codeJ Try.prog (tableJ (T19 k)) (Lof 0 k (cuts19 k)) body19 (st0 pin19 os19 x y) (endJ Try.prog 0 [.tmp 0] alts19) := by
  rintro ⟨⟩ ⟨⟩; kernel_rfl
theorem k19 (k : Nat) : FnOK Try.prog 19 pin19 os19 alts19 (F19 k) :=
  fn_ok (fn := Try.f19) (body := body19) (cuts := cuts19 k) (k := k) (C := tableJ (T19 k)) (C' := tableJ (T19 k)) (table_ok _) (table_nat _) (table_ok _) mixed (by kernel_rfl) (by kernel_rfl) (by decide) (by kernel_rfl) (fun x => Nat.le_of_ble_eq_true (by kernel_rfl))
    (fun c h => by cases h) (fun c h => by cases h) (e19 k)
noncomputable def E19 (k : Nat) : Entry Try.prog := ⟨19, pin19, os19, alts19, F19 k, k19 k, rfl⟩
/-! 24 Rate -/
abbrev pin24 : VPL := (.cons (.agg (.cons (.int .i64) (.cons (.arr .u64 3) .nil))) (.cons (.int .i64) .nil))
abbrev os24 : List OP := []
abbrev alts24 : List Alt := [(.tup (.cons (.int .i64) (.cons (.int .i64) (.cons (.int .i64) .nil))), [])]
abbrev ps24_6 : VPL := (.cons (.ptr 0 0) (.cons (.int .i64) (.cons (.int .i64) (.cons (.int .i64) .nil))))
abbrev os24_6 : List OP := [.box (.cons (.int .i64) (.cons (.arr .u64 3) .nil)) true]
noncomputable def body24 : Code := match Try.f24.body with
  | some c => c
  | none => .skip
def L24_6 (K : Nat) : Nat → ps24_6.T → OPL.T os24_6 → Option (AT alts24)
  | 0, _, _ => none
  | k + 1, ((), (a1, (a2, (a3, ())))), ((a4, (a5, ())), ()) =>
    if decide ((0 : Int) < a3) = true then
      if a3 = (0 : Int) then none else (L24_6 K) k ((), a1, a3, Int.tmod a2 a3, ()) ((a4, a5, ()), ())
    else
      if a2 = (0 : Int) then none
      else
        if a2 = (0 : Int) then none
        else
          some ((IntKind.wrap IntKind.i64 (Int.tdiv a4 a2), IntKind.wrap IntKind.i64 (Int.tdiv a1 a2), (0 : Int), ()), ())
def F24 (k : Nat) : pin24.T → OPL.T os24 → Option (AT alts24)
  | ((a1, (a2, ())), (a3, ())), () =>
    Option.bind ((F28 k) ((a1, a2, ()), a3, ()) ()) fun val =>
      if (!decide (val.1 = (0 : Int))) = true then some (((0 : Int), (0 : Int), val.1, ()), ())
      else Option.bind ((F45 k) ((a1, a2, ()), a3, a1, ()) ()) fun val => (L24_6 k) k ((), val.1, a1, val.1, ()) ((a1, a2, ()), ())
noncomputable def T24 (K : Nat) : List (Entry Try.prog) := [E28 K, E45 K]
noncomputable def cuts24 (K : Nat) : List (Cut (AT alts24)) := [⟨6, [2, 8, 9, 10], ps24_6, os24_6, L24_6 K⟩]
theorem s24_6 (K : Nat) : ∀ k x y, L24_6 K (k + 1) x y = roundJ Try.prog (tableJ (T24 K)) (Lof 0 k (cuts24 K)) 6 body24 (endJ Try.prog 0 [.tmp 4, .tmp 5, .tmp 6] alts24) (stAt [2, 8, 9, 10] ps24_6 os24_6 x y) := by
  rintro k ⟨⟨⟩, ⟨a1, ⟨a2, ⟨a3, ⟨⟩⟩⟩⟩⟩ ⟨⟨a4, ⟨a5, ⟨⟩⟩⟩, ⟨⟩⟩; kernel_rfl
theorem e24 (k : Nat) : ∀ x y, F24 k x y = codeJ Try.prog (tableJ (T24 k)) (Lof 0 k (cuts24 k)) body24 (st0 pin24 os24 x y) (endJ Try.prog 0 [.tmp 4, .tmp 5, .tmp 6] alts24) := by
  rintro ⟨⟨a1, ⟨a2, ⟨⟩⟩⟩, ⟨a3, ⟨⟩⟩⟩ ⟨⟩; kernel_rfl
theorem k24 (k : Nat) : FnOK Try.prog 24 pin24 os24 alts24 (F24 k) :=
  fn_ok (fn := Try.f24) (body := body24) (cuts := cuts24 k) (k := k) (C := tableJ (T24 k)) (C' := tableJ (T24 k)) (table_ok _) (table_nat _) (table_ok _) mixed (by kernel_rfl) (by kernel_rfl) (by decide) (by kernel_rfl) (fun x => Nat.le_of_ble_eq_true (by kernel_rfl))
    (List.forall_mem_cons.2 ⟨fun x y => rfl, fun c h => by cases h⟩) (List.forall_mem_cons.2 ⟨s24_6 k, fun c h => by cases h⟩) (e24 k)
noncomputable def E24 (k : Nat) : Entry Try.prog := ⟨24, pin24, os24, alts24, F24 k, k24 k, rfl⟩
/-! 26 Sent -/
abbrev pin26 : VPL := (.cons (.agg (.cons (.int .i64) (.cons (.arr .u64 3) .nil))) (.cons (.int .i64) (.cons (.int .i64) .nil)))
abbrev os26 : List OP := []
abbrev alts26 : List Alt := [(.tup (.cons (.int .i64) (.cons (.int .i64) .nil)), [])]
noncomputable def body26 : Code := match Try.f26.body with
  | some c => c
  | none => .skip
def F26 (k : Nat) : pin26.T → OPL.T os26 → Option (AT alts26)
  | ((a1, (a2, ())), (a3, (a4, ()))), () =>
    Option.bind ((F28 k) ((a1, a2, ()), a3, ()) ()) fun val =>
      if (!decide (val.1 = (0 : Int))) = true then some (((0 : Int), val.1, ()), ())
      else
        if decide (a4 < (0 : Int)) = true then some (((0 : Int), (1 : Int), ()), ())
        else
          if decide ((1055 : Int) < a4) = true then some (((0 : Int), (1 : Int), ()), ())
          else Option.bind ((F45 k) ((a1, a2, ()), a3, a4, ()) ()) fun val => some ((val.1, (0 : Int), ()), ())
noncomputable def T26 (K : Nat) : List (Entry Try.prog) := [E28 K, E45 K]
noncomputable def cuts26 (K : Nat) : List (Cut (AT alts26)) := []
theorem e26 (k : Nat) : ∀ x y, F26 k x y = codeJ Try.prog (tableJ (T26 k)) (Lof 0 k (cuts26 k)) body26 (st0 pin26 os26 x y) (endJ Try.prog 0 [.tmp 6, .tmp 7] alts26) := by
  rintro ⟨⟨a1, ⟨a2, ⟨⟩⟩⟩, ⟨a3, ⟨a4, ⟨⟩⟩⟩⟩ ⟨⟩; kernel_rfl
theorem k26 (k : Nat) : FnOK Try.prog 26 pin26 os26 alts26 (F26 k) :=
  fn_ok (fn := Try.f26) (body := body26) (cuts := cuts26 k) (k := k) (C := tableJ (T26 k)) (C' := tableJ (T26 k)) (table_ok _) (table_nat _) (table_ok _) mixed (by kernel_rfl) (by kernel_rfl) (by decide) (by kernel_rfl) (fun x => Nat.le_of_ble_eq_true (by kernel_rfl))
    (fun c h => by cases h) (fun c h => by cases h) (e26 k)
noncomputable def E26 (k : Nat) : Entry Try.prog := ⟨26, pin26, os26, alts26, F26 k, k26 k, rfl⟩
/-! 42 Kept -/
abbrev pin42 : VPL := (.cons (.agg (.cons (.int .i64) (.cons (.arr .u64 3) .nil))) (.cons (.int .i64) (.cons (.int .i64) .nil)))
abbrev os42 : List OP := []
abbrev alts42 : List Alt := [(.bool, [])]
noncomputable def body42 : Code := match Try.f42.body with
  | some c => c
  | none => .skip
def F42 : pin42.T → OPL.T os42 → Option (AT alts42)
  | ((a1, (a2, ())), (a3, (a4, ()))), () =>
    if (0 : Int) ≤ a3 ∧ a3 < (3 : Int) then
      if Int.toNat a3 * (1 : Nat) < (3 : Nat) then
        if a1 = (0 : Int) then none
        else
          if IntKind.wrap IntKind.u64 (Int.tmod a4 a1) < (0 : Int) then none
          else
            some
              (decide
                  (IntKind.wrap IntKind.u64
                      (↑(BitVec.toNat
                            (BitVec.ofInt (64 : Nat)
                                (shr' IntKind.u64 (List.getD a2 (Int.toNat a3 * (1 : Nat)) (0 : Int))
                                  (IntKind.wrap IntKind.u64 (Int.tmod a4 a1))) &&&
                              BitVec.ofInt (64 : Nat) (1 : Int))) :
                        Int) =
                    (1 : Int)),
                ())
      else none
    else none
noncomputable def T42 : List (Entry Try.prog) := []
noncomputable def cuts42 : List (Cut (AT alts42)) := []
theorem e42 : ∀ x y, F42 x y = codeJ Try.prog (tableJ (T42)) (Lof 0 0 (cuts42)) body42 (st0 pin42 os42 x y) (endJ Try.prog 0 [.tmp 6] alts42) := by
  rintro ⟨⟨a1, ⟨a2, ⟨⟩⟩⟩, ⟨a3, ⟨a4, ⟨⟩⟩⟩⟩ ⟨⟩; kernel_rfl
theorem k42 : FnOK Try.prog 42 pin42 os42 alts42 (F42) :=
  fn_ok (fn := Try.f42) (body := body42) (cuts := cuts42) (k := 0) (C := tableJ (T42)) (C' := tableJ (T42)) (table_ok _) (table_nat _) (table_ok _) mixed (by kernel_rfl) (by kernel_rfl) (by decide) (by kernel_rfl) (fun x => Nat.le_of_ble_eq_true (by kernel_rfl))
    (fun c h => by cases h) (fun c h => by cases h) (e42)
noncomputable def E42 : Entry Try.prog := ⟨42, pin42, os42, alts42, F42, k42, rfl⟩
/-! 29 R.Check -/
abbrev pin29 : VPL := (.cons (.agg (.cons (.int .i64) (.cons (.arr .u64 3) .nil))) (.cons (.int .i64) .nil))
abbrev os29 : List OP := []
abbrev alts29 : List Alt := [(.int .i64, [])]
abbrev ps29_7 : VPL := (.cons (.int .i64) (.cons (.ptr 0 0) (.cons .bool (.cons (.int .i64) .nil))))
abbrev os29_7 : List OP := [.box (.cons (.int .i64) (.cons (.arr .u64 3) .nil)) true]
noncomputable def body29 : Code := match Try.f29.body with
  | some c => c
  | none => .skip
def L29_7 : Nat → ps29_7.T → OPL.T os29_7 → Option (AT alts29)
  | 0, _, _ => none
  | k + 1, (a1, ((), (a2, (a3, ())))), ((a4, (a5, ())), ()) =>
    if decide (a3 < (3 : Int)) = true then
      if decide (a4 < (64 : Int)) = true then
        if (0 : Int) ≤ a3 ∧ a3 < (3 : Int) then
          if Int.toNat a3 * (1 : Nat) < (3 : Nat) then
            if IntKind.wrap IntKind.u64 a4 < (0 : Int) then none
            else
              if
                  (!decide
                        (shr' IntKind.u64 (List.getD a5 (Int.toNat a3 * (1 : Nat)) (0 : Int))
                            (IntKind.wrap IntKind.u64 a4) =
                          (0 : Int))) =
                    true then
                some ((340 : Int), ())
              else
                if decide (a1 ≤ a3) = true then
                  if (0 : Int) ≤ a3 ∧ a3 < (3 : Int) then
                    if Int.toNat a3 * (1 : Nat) < (3 : Nat) then
                      if (!decide (List.getD a5 (Int.toNat a3 * (1 : Nat)) (0 : Int) = (0 : Int))) = true then
                        some ((340 : Int), ())
                      else
                        if a2 = true then
                          L29_7 k (a1, (), true, IntKind.wrap IntKind.i64 (a3 + (1 : Int)), ()) ((a4, a5, ()), ())
                        else
                          if (0 : Int) ≤ a3 ∧ a3 < (3 : Int) then
                            if Int.toNat a3 * (1 : Nat) < (3 : Nat) then
                              L29_7 k
                                (a1, (), !decide (List.getD a5 (Int.toNat a3 * (1 : Nat)) (0 : Int) = (0 : Int)),
                                  IntKind.wrap IntKind.i64 (a3 + (1 : Int)), ())
                                ((a4, a5, ()), ())
                            else none
                          else none
                    else none
                  else none
                else
                  if a2 = true then L29_7 k (a1, (), true, IntKind.wrap IntKind.i64 (a3 + (1 : Int)), ()) ((a4, a5, ()), ())
                  else
                    if (0 : Int) ≤ a3 ∧ a3 < (3 : Int) then
                      if Int.toNat a3 * (1 : Nat) < (3 : Nat) then
                        L29_7 k
                          (a1, (), !decide (List.getD a5 (Int.toNat a3 * (1 : Nat)) (0 : Int) = (0 : Int)),
                            IntKind.wrap IntKind.i64 (a3 + (1 : Int)), ())
                          ((a4, a5, ()), ())
                      else none
                    else none
          else none
        else none
      else
        if decide (a1 ≤ a3) = true then
          if (0 : Int) ≤ a3 ∧ a3 < (3 : Int) then
            if Int.toNat a3 * (1 : Nat) < (3 : Nat) then
              if (!decide (List.getD a5 (Int.toNat a3 * (1 : Nat)) (0 : Int) = (0 : Int))) = true then
                some ((340 : Int), ())
              else
                if a2 = true then L29_7 k (a1, (), true, IntKind.wrap IntKind.i64 (a3 + (1 : Int)), ()) ((a4, a5, ()), ())
                else
                  if (0 : Int) ≤ a3 ∧ a3 < (3 : Int) then
                    if Int.toNat a3 * (1 : Nat) < (3 : Nat) then
                      L29_7 k
                        (a1, (), !decide (List.getD a5 (Int.toNat a3 * (1 : Nat)) (0 : Int) = (0 : Int)),
                          IntKind.wrap IntKind.i64 (a3 + (1 : Int)), ())
                        ((a4, a5, ()), ())
                    else none
                  else none
            else none
          else none
        else
          if a2 = true then L29_7 k (a1, (), true, IntKind.wrap IntKind.i64 (a3 + (1 : Int)), ()) ((a4, a5, ()), ())
          else
            if (0 : Int) ≤ a3 ∧ a3 < (3 : Int) then
              if Int.toNat a3 * (1 : Nat) < (3 : Nat) then
                L29_7 k
                  (a1, (), !decide (List.getD a5 (Int.toNat a3 * (1 : Nat)) (0 : Int) = (0 : Int)),
                    IntKind.wrap IntKind.i64 (a3 + (1 : Int)), ())
                  ((a4, a5, ()), ())
              else none
            else none
    else if (!a2) = true then some ((340 : Int), ()) else some ((0 : Int), ())
def F29 (k : Nat) : pin29.T → OPL.T os29 → Option (AT alts29)
  | ((a1, (a2, ())), (a3, ())), () =>
    if (!decide (a3 = (2 : Int))) = true then
      if (!decide (a3 = (3 : Int))) = true then some ((1 : Int), ())
      else
        if decide (a1 < (1 : Int)) = true then some ((340 : Int), ())
        else
          if decide ((64 : Int) < a1) = true then some ((340 : Int), ())
          else L29_7 k (a3, (), false, (0 : Int), ()) ((a1, a2, ()), ())
    else
      if decide (a1 < (1 : Int)) = true then some ((340 : Int), ())
      else
        if decide ((64 : Int) < a1) = true then some ((340 : Int), ())
        else L29_7 k (a3, (), false, (0 : Int), ()) ((a1, a2, ()), ())
noncomputable def T29 : List (Entry Try.prog) := []
noncomputable def cuts29 : List (Cut (AT alts29)) := [⟨7, [1, 2, 5, 6], ps29_7, os29_7, L29_7⟩]
theorem s29_7 : ∀ k x y, L29_7 (k + 1) x y = roundJ Try.prog (tableJ (T29)) (Lof 0 k (cuts29)) 7 body29 (endJ Try.prog 0 [.tmp 4] alts29) (stAt [1, 2, 5, 6] ps29_7 os29_7 x y) := by
  rintro k ⟨a1, ⟨⟨⟩, ⟨a2, ⟨a3, ⟨⟩⟩⟩⟩⟩ ⟨⟨a4, ⟨a5, ⟨⟩⟩⟩, ⟨⟩⟩; kernel_rfl
theorem e29 (k : Nat) : ∀ x y, F29 k x y = codeJ Try.prog (tableJ (T29)) (Lof 0 k (cuts29)) body29 (st0 pin29 os29 x y) (endJ Try.prog 0 [.tmp 4] alts29) := by
  rintro ⟨⟨a1, ⟨a2, ⟨⟩⟩⟩, ⟨a3, ⟨⟩⟩⟩ ⟨⟩; kernel_rfl
theorem k29 (k : Nat) : FnOK Try.prog 29 pin29 os29 alts29 (F29 k) :=
  fn_ok (fn := Try.f29) (body := body29) (cuts := cuts29) (k := k) (C := tableJ (T29)) (C' := tableJ (T29)) (table_ok _) (table_nat _) (table_ok _) mixed (by kernel_rfl) (by kernel_rfl) (by decide) (by kernel_rfl) (fun x => Nat.le_of_ble_eq_true (by kernel_rfl))
    (List.forall_mem_cons.2 ⟨fun x y => rfl, fun c h => by cases h⟩) (List.forall_mem_cons.2 ⟨s29_7, fun c h => by cases h⟩) (e29 k)
noncomputable def E29 (k : Nat) : Entry Try.prog := ⟨29, pin29, os29, alts29, F29 k, k29 k, rfl⟩
/-! 46 R.sent -/
abbrev pin46 : VPL := (.cons (.agg (.cons (.int .i64) (.cons (.arr .u64 3) .nil))) (.cons (.int .i64) (.cons (.int .i64) .nil)))
abbrev os46 : List OP := []
abbrev alts46 : List Alt := [(.int .i64, [])]
abbrev ps46_6 : VPL := (.cons (.int .i64) (.cons (.int .i64) (.cons (.ptr 0 0) (.cons (.int .i64) (.cons (.int .i64) (.cons (.int .i64) .nil))))))
abbrev os46_6 : List OP := [.box (.cons (.int .i64) (.cons (.arr .u64 3) .nil)) true]
abbrev ps46_3 : VPL := (.cons (.int .i64) (.cons (.int .i64) (.cons (.ptr 0 0) (.cons (.int .i64) (.cons (.int .i64) .nil)))))
abbrev os46_3 : List OP := [.box (.cons (.int .i64) (.cons (.arr .u64 3) .nil)) true]
noncomputable def body46 : Code := match Try.f46.body with
  | some c => c
  | none => .skip
mutual
def L46_6 : Nat → ps46_6.T → OPL.T os46_6 → Option (AT alts46)
  | 0, _, _ => none
  | k + 1, (a1, (a2, ((), (a3, (a4, (a5, ())))))), ((a6, (a7, ())), ()) =>
    if decide (a5 < a1) = true then
      Option.bind (F42 ((a6, a7, ()), a5, a4, ()) ()) fun val =>
        if val.1 = true then
          L46_6 k (a1, a2, (), IntKind.wrap IntKind.i64 (a3 + (1 : Int)), a4, IntKind.wrap IntKind.i64 (a5 + (1 : Int)), ())
            ((a6, a7, ()), ())
        else L46_6 k (a1, a2, (), a3, a4, IntKind.wrap IntKind.i64 (a5 + (1 : Int)), ()) ((a6, a7, ()), ())
    else L46_3 k (a1, a2, (), a3, IntKind.wrap IntKind.i64 (a4 + (1 : Int)), ()) ((a6, a7, ()), ())
def L46_3 : Nat → ps46_3.T → OPL.T os46_3 → Option (AT alts46)
  | 0, _, _ => none
  | k + 1, (a1, (a2, ((), (a3, (a4, ()))))), ((a5, (a6, ())), ()) =>
    if decide (a4 < a2) = true then L46_6 k (a1, a2, (), a3, a4, (0 : Int), ()) ((a5, a6, ()), ()) else some (a3, ())
end
def F46 (k : Nat) : pin46.T → OPL.T os46 → Option (AT alts46)
  | ((a1, (a2, ())), (a3, (a4, ()))), () =>
    L46_3 k (a3, a4, (), (0 : Int), (0 : Int), ()) ((a1, a2, ()), ())
noncomputable def T46 : List (Entry Try.prog) := [E42]
noncomputable def cuts46 : List (Cut (AT alts46)) := [⟨6, [1, 2, 3, 7, 8, 9], ps46_6, os46_6, L46_6⟩, ⟨3, [1, 2, 3, 7, 8], ps46_3, os46_3, L46_3⟩]
theorem s46_6 : ∀ k x y, L46_6 (k + 1) x y = roundJ Try.prog (tableJ (T46)) (Lof 0 k (cuts46)) 6 body46 (endJ Try.prog 0 [.tmp 6] alts46) (stAt [1, 2, 3, 7, 8, 9] ps46_6 os46_6 x y) := by
  rintro k ⟨a1, ⟨a2, ⟨⟨⟩, ⟨a3, ⟨a4, ⟨a5, ⟨⟩⟩⟩⟩⟩⟩⟩ ⟨⟨a6, ⟨a7, ⟨⟩⟩⟩, ⟨⟩⟩; kernel_rfl
theorem s46_3 : ∀ k x y, L46_3 (k + 1) x y = roundJ Try.prog (tableJ (T46)) (Lof 0 k (cuts46)) 3 body46 (endJ Try.prog 0 [.tmp 6] alts46) (stAt [1, 2, 3, 7, 8] ps46_3 os46_3 x y) := by
  rintro k ⟨a1, ⟨a2, ⟨⟨⟩, ⟨a3, ⟨a4, ⟨⟩⟩⟩⟩⟩⟩ ⟨⟨a5, ⟨a6, ⟨⟩⟩⟩, ⟨⟩⟩; kernel_rfl
theorem e46 (k : Nat) : ∀ x y, F46 k x y = codeJ Try.prog (tableJ (T46)) (Lof 0 k (cuts46)) body46 (st0 pin46 os46 x y) (endJ Try.prog 0 [.tmp 6] alts46) := by
  rintro ⟨⟨a1, ⟨a2, ⟨⟩⟩⟩, ⟨a3, ⟨a4, ⟨⟩⟩⟩⟩ ⟨⟩; kernel_rfl
theorem k46 (k : Nat) : FnOK Try.prog 46 pin46 os46 alts46 (F46 k) :=
  fn_ok (fn := Try.f46) (body := body46) (cuts := cuts46) (k := k) (C := tableJ (T46)) (C' := tableJ (T46)) (table_ok _) (table_nat _) (table_ok _) mixed (by kernel_rfl) (by kernel_rfl) (by decide) (by kernel_rfl) (fun x => Nat.le_of_ble_eq_true (by kernel_rfl))
    (List.forall_mem_cons.2 ⟨fun x y => rfl, List.forall_mem_cons.2 ⟨fun x y => rfl, fun c h => by cases h⟩⟩) (List.forall_mem_cons.2 ⟨s46_6, List.forall_mem_cons.2 ⟨s46_3, fun c h => by cases h⟩⟩) (e46 k)
noncomputable def E46 (k : Nat) : Entry Try.prog := ⟨46, pin46, os46, alts46, F46 k, k46 k, rfl⟩
/-! 21 R.Fill -/
abbrev pin21 : VPL := (.cons (.agg (.cons (.int .i64) (.cons (.arr .u64 3) .nil))) (.cons (.int .i64) (.cons (.int .i64) (.cons (.int .i64) (.cons (.lst false (.one (.int .u8))) .nil)))))
abbrev os21 : List OP := []
abbrev alts21 : List Alt := [(.tup (.cons (.full 0) (.cons (.int .i64) .nil)), [.row (.one (.int .u8)) true])]
abbrev ps21_9 : VPL := (.cons (.int .i64) (.cons (.int .i64) (.cons (.int .i64) (.cons (.lst false (.one (.int .u8))) (.cons (.ptr 0 0) (.cons (.int .i64) .nil))))))
abbrev os21_9 : List OP := [.box (.cons (.int .i64) (.cons (.arr .u64 3) .nil)) true]
abbrev ps21_16 : VPL := (.cons (.int .i64) (.cons (.int .i64) (.cons (.int .i64) (.cons (.lst false (.one (.int .u8))) (.cons (.ptr 0 0) (.cons (.full 1) (.cons (.int .i64) (.cons (.int .i64) .nil))))))))
abbrev os21_16 : List OP := [.box (.cons (.int .i64) (.cons (.arr .u64 3) .nil)) true, .row (.one (.int .u8)) true]
noncomputable def body21 : Code := match Try.f21.body with
  | some c => c
  | none => .skip
def L21_16 (K : Nat) : Nat → ps21_16.T → OPL.T os21_16 → Option (AT alts21)
  | 0, _, _ => none
  | k + 1, (a1, (a2, (a3, (a4, ((), ((), (a5, (a6, ())))))))), ((a7, (a8, ())), (a9, ())) =>
    if decide (a6 < IntKind.wrap IntKind.i64 (a1 * a3)) = true then
      if a1 = (0 : Int) then none
      else
        if a1 = (0 : Int) then none
        else
          Option.bind (F42 ((a7, a8, ()), Int.tmod a6 a1, IntKind.wrap IntKind.i64 (Int.tdiv a6 a1), ()) ()) fun val =>
            if val.1 = true then
              if (0 : Int) ≤ a5 ∧ a5 < (↑(List.length a4) : Int) then
                if (List.length a9 + (1 : Nat)) * (1 : Nat) ≤ (140737488355328 : Nat) then
                  (L21_16 K) k
                    (a1, a2, a3, a4, (), (), IntKind.wrap IntKind.i64 (a5 + (1 : Int)),
                      IntKind.wrap IntKind.i64 (a6 + (1 : Int)), ())
                    ((a7, a8, ()), a9 ++ [List.getD a4 (Int.toNat a5) (0 : Int)], ())
                else none
              else none
            else
              if (List.length a9 + (1 : Nat)) * (1 : Nat) ≤ (140737488355328 : Nat) then
                (L21_16 K) k (a1, a2, a3, a4, (), (), a5, IntKind.wrap IntKind.i64 (a6 + (1 : Int)), ())
                  ((a7, a8, ()), a9 ++ [IntKind.wrap IntKind.u8 a2], ())
              else none
    else some (((), (0 : Int), ()), a9, ())
def L21_9 (K : Nat) : Nat → ps21_9.T → OPL.T os21_9 → Option (AT alts21)
  | 0, _, _ => none
  | k + 1, (a1, (a2, (a3, (a4, ((), (a5, ())))))), ((a6, (a7, ())), ()) =>
    if decide (a5 < (↑(List.length a4) : Int)) = true then
      if (0 : Int) ≤ a5 ∧ a5 < (↑(List.length a4) : Int) then
        if decide (a2 ≤ IntKind.wrap IntKind.i64 (List.getD a4 (Int.toNat a5) (0 : Int))) = true then
          some (((), (91 : Int), ()), [], ())
        else (L21_9 K) k (a1, a2, a3, a4, (), IntKind.wrap IntKind.i64 (a5 + (1 : Int)), ()) ((a6, a7, ()), ())
      else none
    else (L21_16 K) k (a1, a2, a3, a4, (), (), (0 : Int), (0 : Int), ()) ((a6, a7, ()), [], ())
def F21 (k : Nat) : pin21.T → OPL.T os21 → Option (AT alts21)
  | ((a1, (a2, ())), (a3, (a4, (a5, (a6, ()))))), () =>
    Option.bind ((F29 k) ((a1, a2, ()), a3, ()) ()) fun val =>
      if (!decide (val.1 = (0 : Int))) = true then some (((), val.1, ()), [], ())
      else
        if decide (a4 < (2 : Int)) = true then some (((), (1 : Int), ()), [], ())
        else
          if decide ((15 : Int) < a4) = true then some (((), (1 : Int), ()), [], ())
          else
            if decide (a5 < (0 : Int)) = true then some (((), (1 : Int), ()), [], ())
            else
              if decide ((1055 : Int) < a5) = true then some (((), (1 : Int), ()), [], ())
              else
                Option.bind ((F46 k) ((a1, a2, ()), a3, a5, ()) ()) fun val =>
                  if (!decide ((↑(List.length a6) : Int) = val.1)) = true then some (((), (5 : Int), ()), [], ())
                  else (L21_9 k) k (a3, a4, a5, a6, (), (0 : Int), ()) ((a1, a2, ()), ())
noncomputable def T21 (K : Nat) : List (Entry Try.prog) := [E29 K, E46 K, E42]
noncomputable def cuts21 (K : Nat) : List (Cut (AT alts21)) := [⟨9, [1, 2, 3, 4, 5, 13], ps21_9, os21_9, L21_9 K⟩, ⟨16, [1, 2, 3, 4, 5, 14, 15, 16], ps21_16, os21_16, L21_16 K⟩]
theorem s21_9 (K : Nat) : ∀ k x y, L21_9 K (k + 1) x y = roundJ Try.prog (tableJ (T21 K)) (Lof 0 k (cuts21 K)) 9 body21 (endJ Try.prog 0 [.tmp 10, .tmp 11] alts21) (stAt [1, 2, 3, 4, 5, 13] ps21_9 os21_9 x y) := by
  rintro k ⟨a1, ⟨a2, ⟨a3, ⟨a4, ⟨⟨⟩, ⟨a5, ⟨⟩⟩⟩⟩⟩⟩⟩ ⟨⟨a6, ⟨a7, ⟨⟩⟩⟩, ⟨⟩⟩; kernel_rfl
theorem s21_16 (K : Nat) : ∀ k x y, L21_16 K (k + 1) x y = roundJ Try.prog (tableJ (T21 K)) (Lof 0 k (cuts21 K)) 16 body21 (endJ Try.prog 0 [.tmp 10, .tmp 11] alts21) (stAt [1, 2, 3, 4, 5, 14, 15, 16] ps21_16 os21_16 x y) := by
  rintro k ⟨a1, ⟨a2, ⟨a3, ⟨a4, ⟨⟨⟩, ⟨⟨⟩, ⟨a5, ⟨a6, ⟨⟩⟩⟩⟩⟩⟩⟩⟩⟩ ⟨⟨a7, ⟨a8, ⟨⟩⟩⟩, ⟨a9, ⟨⟩⟩⟩; kernel_rfl
theorem e21 (k : Nat) : ∀ x y, F21 k x y = codeJ Try.prog (tableJ (T21 k)) (Lof 0 k (cuts21 k)) body21 (st0 pin21 os21 x y) (endJ Try.prog 0 [.tmp 10, .tmp 11] alts21) := by
  rintro ⟨⟨a1, ⟨a2, ⟨⟩⟩⟩, ⟨a3, ⟨a4, ⟨a5, ⟨a6, ⟨⟩⟩⟩⟩⟩⟩ ⟨⟩; kernel_rfl
theorem k21 (k : Nat) : FnOK Try.prog 21 pin21 os21 alts21 (F21 k) :=
  fn_ok (fn := Try.f21) (body := body21) (cuts := cuts21 k) (k := k) (C := tableJ (T21 k)) (C' := tableJ (T21 k)) (table_ok _) (table_nat _) (table_ok _) mixed (by kernel_rfl) (by kernel_rfl) (by decide) (by kernel_rfl) (fun x => Nat.le_of_ble_eq_true (by kernel_rfl))
    (List.forall_mem_cons.2 ⟨fun x y => rfl, List.forall_mem_cons.2 ⟨fun x y => rfl, fun c h => by cases h⟩⟩) (List.forall_mem_cons.2 ⟨s21_9 k, List.forall_mem_cons.2 ⟨s21_16 k, fun c h => by cases h⟩⟩) (e21 k)
noncomputable def E21 (k : Nat) : Entry Try.prog := ⟨21, pin21, os21, alts21, F21 k, k21 k, rfl⟩
/-! 23 R.Named -/
abbrev pin23 : VPL := (.cons .str .nil)
abbrev os23 : List OP := []
abbrev alts23 : List Alt := [(.tup (.cons (.agg (.cons (.int .i64) (.cons (.arr .u64 3) .nil))) (.cons (.int .i64) .nil)), [])]
noncomputable def body23 : Code := match Try.f23.body with
  | some c => c
  | none => .skip
def F23 : pin23.T → OPL.T os23 → Option (AT alts23)
  | (a1, ()), () =>
    if decide (a1 = [(114 : Int), (50 : Int), (51 : Int)]) = true then
      some
        ((((2 : Int),
              List.set (List.set (List.set (List.replicate (3 : Nat) (0 : Int)) (0 : Nat) (1 : Int)) (1 : Nat) (3 : Int))
                (2 : Nat) (0 : Int),
              ()),
            (0 : Int), ()),
          ())
    else
      if decide (a1 = [(114 : Int), (51 : Int), (52 : Int)]) = true then
        some
          ((((3 : Int),
                List.set (List.set (List.set (List.replicate (3 : Nat) (0 : Int)) (0 : Nat) (5 : Int)) (1 : Nat) (3 : Int))
                  (2 : Nat) (0 : Int),
                ()),
              (0 : Int), ()),
            ())
      else
        if decide (a1 = [(114 : Int), (53 : Int), (54 : Int)]) = true then
          some
            ((((5 : Int),
                  List.set
                    (List.set (List.set (List.replicate (3 : Nat) (0 : Int)) (0 : Nat) (21 : Int)) (1 : Nat) (11 : Int))
                    (2 : Nat) (0 : Int),
                  ()),
                (0 : Int), ()),
              ())
        else
          if decide (a1 = [(114 : Int), (55 : Int), (56 : Int)]) = true then
            some
              ((((7 : Int),
                    List.set
                      (List.set (List.set (List.replicate (3 : Nat) (0 : Int)) (0 : Nat) (81 : Int)) (1 : Nat) (47 : Int))
                      (2 : Nat) (0 : Int),
                    ()),
                  (0 : Int), ()),
                ())
          else some ((((0 : Int), List.replicate (3 : Nat) (0 : Int), ()), (3 : Int), ()), ())
noncomputable def T23 : List (Entry Try.prog) := []
noncomputable def cuts23 : List (Cut (AT alts23)) := []
theorem e23 : ∀ x y, F23 x y = codeJ Try.prog (tableJ (T23)) (Lof 0 0 (cuts23)) body23 (st0 pin23 os23 x y) (endJ Try.prog 0 [.cell 2 25, .tmp 3] alts23) := by
  rintro ⟨a1, ⟨⟩⟩ ⟨⟩; kernel_rfl
theorem k23 : FnOK Try.prog 23 pin23 os23 alts23 (F23) :=
  fn_ok (fn := Try.f23) (body := body23) (cuts := cuts23) (k := 0) (C := tableJ (T23)) (C' := tableJ (T23)) (table_ok _) (table_nat _) (table_ok _) mixed (by kernel_rfl) (by kernel_rfl) (by decide) (by kernel_rfl) (fun x => Nat.le_of_ble_eq_true (by kernel_rfl))
    (fun c h => by cases h) (fun c h => by cases h) (e23)
noncomputable def E23 : Entry Try.prog := ⟨23, pin23, os23, alts23, F23, k23, rfl⟩
/-! 25 R.Rate -/
abbrev pin25 : VPL := (.cons (.agg (.cons (.int .i64) (.cons (.arr .u64 3) .nil))) (.cons (.int .i64) .nil))
abbrev os25 : List OP := []
abbrev alts25 : List Alt := [(.tup (.cons (.int .i64) (.cons (.int .i64) (.cons (.int .i64) .nil))), [])]
abbrev ps25_8 : VPL := (.cons (.int .i64) (.cons (.int .i64) (.cons (.int .i64) .nil)))
abbrev os25_8 : List OP := []
noncomputable def body25 : Code := match Try.f25.body with
  | some c => c
  | none => .skip
def L25_8 (K : Nat) : Nat → ps25_8.T → OPL.T os25_8 → Option (AT alts25)
  | 0, _, _ => none
  | k + 1, (a1, (a2, (a3, ()))), () =>
    if a3 = (0 : Int) then none
    else
      if decide (Int.tmod a1 a3 = (0 : Int)) = true then
        if a3 = (0 : Int) then none
        else
          if decide (Int.tmod a2 a3 = (0 : Int)) = true then
            if a3 = (0 : Int) then none
            else
              if a3 = (0 : Int) then none
              else
                some
                  ((IntKind.wrap IntKind.i64 (Int.tdiv a1 a3), IntKind.wrap IntKind.i64 (Int.tdiv a2 a3), (0 : Int), ()),
                    ())
          else (L25_8 K) k (a1, a2, IntKind.wrap IntKind.i64 (a3 - (1 : Int)), ()) ()
      else (L25_8 K) k (a1, a2, IntKind.wrap IntKind.i64 (a3 - (1 : Int)), ()) ()
def F25 (k : Nat) : pin25.T → OPL.T os25 → Option (AT alts25)
  | ((a1, (a2, ())), (a3, ())), () =>
    Option.bind ((F29 k) ((a1, a2, ()), a3, ()) ()) fun val =>
      if (!decide (val.1 = (0 : Int))) = true then some (((0 : Int), (0 : Int), val.1, ()), ())
      else Option.bind ((F46 k) ((a1, a2, ()), a3, a1, ()) ()) fun val => (L25_8 k) k (a1, val.1, a1, ()) ()
noncomputable def T25 (K : Nat) : List (Entry Try.prog) := [E29 K, E46 K]
noncomputable def cuts25 (K : Nat) : List (Cut (AT alts25)) := [⟨8, [8, 9, 10], ps25_8, os25_8, L25_8 K⟩]
theorem s25_8 (K : Nat) : ∀ k x y, L25_8 K (k + 1) x y = roundJ Try.prog (tableJ (T25 K)) (Lof 0 k (cuts25 K)) 8 body25 (endJ Try.prog 0 [.tmp 4, .tmp 5, .tmp 6] alts25) (stAt [8, 9, 10] ps25_8 os25_8 x y) := by
  rintro k ⟨a1, ⟨a2, ⟨a3, ⟨⟩⟩⟩⟩ ⟨⟩; kernel_rfl
theorem e25 (k : Nat) : ∀ x y, F25 k x y = codeJ Try.prog (tableJ (T25 k)) (Lof 0 k (cuts25 k)) body25 (st0 pin25 os25 x y) (endJ Try.prog 0 [.tmp 4, .tmp 5, .tmp 6] alts25) := by
  rintro ⟨⟨a1, ⟨a2, ⟨⟩⟩⟩, ⟨a3, ⟨⟩⟩⟩ ⟨⟩; kernel_rfl
theorem k25 (k : Nat) : FnOK Try.prog 25 pin25 os25 alts25 (F25 k) :=
  fn_ok (fn := Try.f25) (body := body25) (cuts := cuts25 k) (k := k) (C := tableJ (T25 k)) (C' := tableJ (T25 k)) (table_ok _) (table_nat _) (table_ok _) mixed (by kernel_rfl) (by kernel_rfl) (by decide) (by kernel_rfl) (fun x => Nat.le_of_ble_eq_true (by kernel_rfl))
    (List.forall_mem_cons.2 ⟨fun x y => rfl, fun c h => by cases h⟩) (List.forall_mem_cons.2 ⟨s25_8 k, fun c h => by cases h⟩) (e25 k)
noncomputable def E25 (k : Nat) : Entry Try.prog := ⟨25, pin25, os25, alts25, F25 k, k25 k, rfl⟩
/-! 27 R.Sent -/
abbrev pin27 : VPL := (.cons (.agg (.cons (.int .i64) (.cons (.arr .u64 3) .nil))) (.cons (.int .i64) (.cons (.int .i64) .nil)))
abbrev os27 : List OP := []
abbrev alts27 : List Alt := [(.tup (.cons (.int .i64) (.cons (.int .i64) .nil)), [])]
noncomputable def body27 : Code := match Try.f27.body with
  | some c => c
  | none => .skip
def F27 (k : Nat) : pin27.T → OPL.T os27 → Option (AT alts27)
  | ((a1, (a2, ())), (a3, (a4, ()))), () =>
    Option.bind ((F29 k) ((a1, a2, ()), a3, ()) ()) fun val =>
      if decide (val.1 = (0 : Int)) = true then
        if decide (a4 < (0 : Int)) = true then some (((0 : Int), (1 : Int), ()), ())
        else
          if decide ((1055 : Int) < a4) = true then some (((0 : Int), (1 : Int), ()), ())
          else
            if (!decide (val.1 = (0 : Int))) = true then some (((0 : Int), val.1, ()), ())
            else Option.bind ((F46 k) ((a1, a2, ()), a3, a4, ()) ()) fun val => some ((val.1, (0 : Int), ()), ())
      else
        if (!decide (val.1 = (0 : Int))) = true then some (((0 : Int), val.1, ()), ())
        else Option.bind ((F46 k) ((a1, a2, ()), a3, a4, ()) ()) fun val => some ((val.1, (0 : Int), ()), ())
noncomputable def T27 (K : Nat) : List (Entry Try.prog) := [E29 K, E46 K]
noncomputable def cuts27 (K : Nat) : List (Cut (AT alts27)) := []
theorem e27 (k : Nat) : ∀ x y, F27 k x y = codeJ Try.prog (tableJ (T27 k)) (Lof 0 k (cuts27 k)) body27 (st0 pin27 os27 x y) (endJ Try.prog 0 [.tmp 6, .tmp 7] alts27) := by
  rintro ⟨⟨a1, ⟨a2, ⟨⟩⟩⟩, ⟨a3, ⟨a4, ⟨⟩⟩⟩⟩ ⟨⟩; kernel_rfl
theorem k27 (k : Nat) : FnOK Try.prog 27 pin27 os27 alts27 (F27 k) :=
  fn_ok (fn := Try.f27) (body := body27) (cuts := cuts27 k) (k := k) (C := tableJ (T27 k)) (C' := tableJ (T27 k)) (table_ok _) (table_nat _) (table_ok _) mixed (by kernel_rfl) (by kernel_rfl) (by decide) (by kernel_rfl) (fun x => Nat.le_of_ble_eq_true (by kernel_rfl))
    (fun c h => by cases h) (fun c h => by cases h) (e27 k)
noncomputable def E27 (k : Nat) : Entry Try.prog := ⟨27, pin27, os27, alts27, F27 k, k27 k, rfl⟩
/-! 12 Lent -/
abbrev pin12 : VPL := (.cons (.lst false (.one (.int .u8))) .nil)
abbrev os12 : List OP := []
abbrev alts12 : List Alt := [(.sl 0, [.row (.one (.int .u8)) true])]
abbrev ps12_3 : VPL := (.cons (.lst false (.one (.int .u8))) (.cons (.full 0) (.cons (.int .i64) .nil)))
abbrev os12_3 : List OP := [.row (.one (.int .u8)) true]
noncomputable def body12 : Code := match Try.f12.body with
  | some c => c
  | none => .skip
def L12_3 : Nat → ps12_3.T → OPL.T os12_3 → Option (AT alts12)
  | 0, _, _ => none
  | k + 1, (a1, ((), (a2, ()))), (a3, ()) =>
    if decide (a2 < (8 : Int)) = true then
      if (List.length a3 + (1 : Nat)) * (1 : Nat) ≤ (140737488355328 : Nat) then
        L12_3 k (a1, (), IntKind.wrap IntKind.i64 (a2 + (1 : Int)), ())
          (a3 ++ [IntKind.wrap IntKind.u8 (IntKind.wrap IntKind.i64 ((200 : Int) + a2))], ())
      else none
    else
      if (0 : Int) ≤ (↑(List.length a1) : Int) ∧ (↑(List.length a1) : Int) ≤ (↑(List.length a3) : Int) then
        some (((0 : Nat), Int.toNat (↑(List.length a1) : Int) - (0 : Nat)), a3, ())
      else none
def F12 (k : Nat) : pin12.T → OPL.T os12 → Option (AT alts12)
  | (a1, ()), () =>
    if ((0 : Nat) + List.length a1) * (1 : Nat) ≤ (140737488355328 : Nat) then L12_3 k (a1, (), (0 : Int), ()) ([] ++ a1, ())
    else none
noncomputable def T12 : List (Entry Try.prog) := []
noncomputable def cuts12 : List (Cut (AT alts12)) := [⟨3, [0, 3, 4], ps12_3, os12_3, L12_3⟩]
theorem s12_3 : ∀ k x y, L12_3 (k + 1) x y = roundJ Try.prog (tableJ (T12)) (Lof 0 k (cuts12)) 3 body12 (endJ Try.prog 0 [.tmp 2] alts12) (stAt [0, 3, 4] ps12_3 os12_3 x y) := by
  rintro k ⟨a1, ⟨⟨⟩, ⟨a2, ⟨⟩⟩⟩⟩ ⟨a3, ⟨⟩⟩; kernel_rfl
theorem e12 (k : Nat) : ∀ x y, F12 k x y = codeJ Try.prog (tableJ (T12)) (Lof 0 k (cuts12)) body12 (st0 pin12 os12 x y) (endJ Try.prog 0 [.tmp 2] alts12) := by
  rintro ⟨a1, ⟨⟩⟩ ⟨⟩; kernel_rfl
theorem k12 (k : Nat) : FnOK Try.prog 12 pin12 os12 alts12 (F12 k) :=
  fn_ok (fn := Try.f12) (body := body12) (cuts := cuts12) (k := k) (C := tableJ (T12)) (C' := tableJ (T12)) (table_ok _) (table_nat _) (table_ok _) mixed (by kernel_rfl) (by kernel_rfl) (by decide) (by kernel_rfl) (fun x => Nat.le_of_ble_eq_true (by kernel_rfl))
    (List.forall_mem_cons.2 ⟨fun x y => rfl, fun c h => by cases h⟩) (List.forall_mem_cons.2 ⟨s12_3, fun c h => by cases h⟩) (e12 k)
noncomputable def E12 (k : Nat) : Entry Try.prog := ⟨12, pin12, os12, alts12, F12 k, k12 k, rfl⟩
/-! 49 metric.Check -/
abbrev pin49 : VPL := (.cons (.agg (.cons (.int .i64) (.cons (.arr .i64 32) .nil))) .nil)
abbrev os49 : List OP := []
abbrev alts49 : List Alt := [(.int .i64, [])]
abbrev ps49_7 : VPL := (.cons (.ptr 0 0) (.cons (.arr .i64 32) (.cons (.int .i64) (.cons (.arr .i64 16) (.cons (.int .i64) .nil)))))
abbrev os49_7 : List OP := [.box (.cons (.int .i64) (.cons (.arr .i64 32) .nil)) true]
abbrev ps49_4 : VPL := (.cons (.ptr 0 0) (.cons (.arr .i64 32) (.cons (.int .i64) .nil)))
abbrev os49_4 : List OP := [.box (.cons (.int .i64) (.cons (.arr .i64 32) .nil)) true]
noncomputable def body49 : Code := match Try.f49.body with
  | some c => c
  | none => .skip
mutual
def L49_7 : Nat → ps49_7.T → OPL.T os49_7 → Option (AT alts49)
  | 0, _, _ => none
  | k + 1, ((), (a1, (a2, (a3, (a4, ()))))), ((a5, (a6, ())), ()) =>
    if decide (a4 < (16 : Int)) = true then
      if (0 : Int) ≤ a4 ∧ a4 < (16 : Int) then
        if decide (List.getD a3 (Int.toNat a4) (0 : Int) < (-4096 : Int)) = true then some ((100 : Int), ())
        else
          if decide ((4096 : Int) < List.getD a3 (Int.toNat a4) (0 : Int)) = true then some ((100 : Int), ())
          else
            if decide (a5 ≤ a4) = true then
              if (!decide (List.getD a3 (Int.toNat a4) (0 : Int) = (0 : Int))) = true then some ((100 : Int), ())
              else L49_7 k ((), a1, a2, a3, IntKind.wrap IntKind.i64 (a4 + (1 : Int)), ()) ((a5, a6, ()), ())
            else L49_7 k ((), a1, a2, a3, IntKind.wrap IntKind.i64 (a4 + (1 : Int)), ()) ((a5, a6, ()), ())
      else none
    else L49_4 k ((), a1, IntKind.wrap IntKind.i64 (a2 + (1 : Int)), ()) ((a5, a6, ()), ())
def L49_4 : Nat → ps49_4.T → OPL.T os49_4 → Option (AT alts49)
  | 0, _, _ => none
  | k + 1, ((), (a1, (a2, ()))), ((a3, (a4, ())), ()) =>
    if decide (a2 < (2 : Int)) = true then
      if (0 : Int) ≤ a2 ∧ a2 < (2 : Int) then
        L49_7 k ((), a1, a2, List.take (16 : Nat) (List.drop (Int.toNat a2 * (16 : Nat)) a1), (0 : Int), ()) ((a3, a4, ()), ())
      else none
    else some ((0 : Int), ())
end
def F49 (k : Nat) : pin49.T → OPL.T os49 → Option (AT alts49)
  | ((a1, (a2, ())), ()), () =>
    if decide (a1 < (2 : Int)) = true then some ((100 : Int), ())
    else if decide ((16 : Int) < a1) = true then some ((100 : Int), ()) else L49_4 k ((), a2, (0 : Int), ()) ((a1, a2, ()), ())
noncomputable def T49 : List (Entry Try.prog) := []
noncomputable def cuts49 : List (Cut (AT alts49)) := [⟨7, [1, 16, 17, 20, 21], ps49_7, os49_7, L49_7⟩, ⟨4, [1, 16, 17], ps49_4, os49_4, L49_4⟩]
theorem s49_7 : ∀ k x y, L49_7 (k + 1) x y = roundJ Try.prog (tableJ (T49)) (Lof 0 k (cuts49)) 7 body49 (endJ Try.prog 0 [.tmp 2] alts49) (stAt [1, 16, 17, 20, 21] ps49_7 os49_7 x y) := by
  rintro k ⟨⟨⟩, ⟨a1, ⟨a2, ⟨a3, ⟨a4, ⟨⟩⟩⟩⟩⟩⟩ ⟨⟨a5, ⟨a6, ⟨⟩⟩⟩, ⟨⟩⟩; kernel_rfl
theorem s49_4 : ∀ k x y, L49_4 (k + 1) x y = roundJ Try.prog (tableJ (T49)) (Lof 0 k (cuts49)) 4 body49 (endJ Try.prog 0 [.tmp 2] alts49) (stAt [1, 16, 17] ps49_4 os49_4 x y) := by
  rintro k ⟨⟨⟩, ⟨a1, ⟨a2, ⟨⟩⟩⟩⟩ ⟨⟨a3, ⟨a4, ⟨⟩⟩⟩, ⟨⟩⟩; kernel_rfl
theorem e49 (k : Nat) : ∀ x y, F49 k x y = codeJ Try.prog (tableJ (T49)) (Lof 0 k (cuts49)) body49 (st0 pin49 os49 x y) (endJ Try.prog 0 [.tmp 2] alts49) := by
  rintro ⟨⟨a1, ⟨a2, ⟨⟩⟩⟩, ⟨⟩⟩ ⟨⟩; kernel_rfl
theorem k49 (k : Nat) : FnOK Try.prog 49 pin49 os49 alts49 (F49 k) :=
  fn_ok (fn := Try.f49) (body := body49) (cuts := cuts49) (k := k) (C := tableJ (T49)) (C' := tableJ (T49)) (table_ok _) (table_nat _) (table_ok _) mixed (by kernel_rfl) (by kernel_rfl) (by decide) (by kernel_rfl) (fun x => Nat.le_of_ble_eq_true (by kernel_rfl))
    (List.forall_mem_cons.2 ⟨fun x y => rfl, List.forall_mem_cons.2 ⟨fun x y => rfl, fun c h => by cases h⟩⟩) (List.forall_mem_cons.2 ⟨s49_7, List.forall_mem_cons.2 ⟨s49_4, fun c h => by cases h⟩⟩) (e49 k)
noncomputable def E49 (k : Nat) : Entry Try.prog := ⟨49, pin49, os49, alts49, F49 k, k49 k, rfl⟩
/-! 30 Widen -/
abbrev pin30 : VPL := (.cons (.agg (.cons (.int .i64) (.cons (.arr .i64 32) .nil))) .nil)
abbrev os30 : List OP := []
abbrev alts30 : List Alt := [(.tup (.cons (.agg (.cons (.int .i64) (.cons (.arr .i64 32) .nil))) (.cons (.int .i64) .nil)), [])]
noncomputable def body30 : Code := match Try.f30.body with
  | some c => c
  | none => .skip
def F30 (k : Nat) : pin30.T → OPL.T os30 → Option (AT alts30)
  | ((a1, (a2, ())), ()), () =>
    Option.bind ((F49 k) ((a1, a2, ()), ()) ()) fun val =>
      if (!decide (val.1 = (0 : Int))) = true then
        some ((((0 : Int), List.replicate (32 : Nat) (0 : Int), ()), val.1, ()), ())
      else
        if decide (a1 = (16 : Int)) = true then
          some ((((0 : Int), List.replicate (32 : Nat) (0 : Int), ()), (6 : Int), ()), ())
        else some (((IntKind.wrap IntKind.i64 (a1 + (1 : Int)), a2, ()), (0 : Int), ()), ())
noncomputable def T30 (K : Nat) : List (Entry Try.prog) := [E49 K]
noncomputable def cuts30 (K : Nat) : List (Cut (AT alts30)) := []
theorem e30 (k : Nat) : ∀ x y, F30 k x y = codeJ Try.prog (tableJ (T30 k)) (Lof 0 k (cuts30 k)) body30 (st0 pin30 os30 x y) (endJ Try.prog 0 [.cell 2 62, .tmp 3] alts30) := by
  rintro ⟨⟨a1, ⟨a2, ⟨⟩⟩⟩, ⟨⟩⟩ ⟨⟩; kernel_rfl
theorem k30 (k : Nat) : FnOK Try.prog 30 pin30 os30 alts30 (F30 k) :=
  fn_ok (fn := Try.f30) (body := body30) (cuts := cuts30 k) (k := k) (C := tableJ (T30 k)) (C' := tableJ (T30 k)) (table_ok _) (table_nat _) (table_ok _) mixed (by kernel_rfl) (by kernel_rfl) (by decide) (by kernel_rfl) (fun x => Nat.le_of_ble_eq_true (by kernel_rfl))
    (fun c h => by cases h) (fun c h => by cases h) (e30 k)
noncomputable def E30 (k : Nat) : Entry Try.prog := ⟨30, pin30, os30, alts30, F30 k, k30 k, rfl⟩
/-! 32 R10.Check -/
abbrev pin32 : VPL := (.cons (.agg (.cons (.int .i64) (.cons (.arr .i64 32) .nil))) .nil)
abbrev os32 : List OP := []
abbrev alts32 : List Alt := [(.int .i64, [])]
abbrev ps32_7 : VPL := (.cons (.ptr 0 0) (.cons (.int .i64) (.cons (.int .i64) .nil)))
abbrev os32_7 : List OP := [.box (.cons (.int .i64) (.cons (.arr .i64 32) .nil)) true]
abbrev ps32_4 : VPL := (.cons (.ptr 0 0) (.cons (.int .i64) .nil))
abbrev os32_4 : List OP := [.box (.cons (.int .i64) (.cons (.arr .i64 32) .nil)) true]
noncomputable def body32 : Code := match Try.f32.body with
  | some c => c
  | none => .skip
mutual
def L32_7 : Nat → ps32_7.T → OPL.T os32_7 → Option (AT alts32)
  | 0, _, _ => none
  | k + 1, ((), (a1, (a2, ()))), ((a3, (a4, ())), ()) =>
    if decide (a2 < (16 : Int)) = true then
      if (0 : Int) ≤ a1 ∧ a1 < (2 : Int) then
        if (0 : Int) ≤ a2 ∧ a2 < (16 : Int) then
          if Int.toNat a1 * (16 : Nat) + Int.toNat a2 * (1 : Nat) < (32 : Nat) then
            if
                decide (List.getD a4 (Int.toNat a1 * (16 : Nat) + Int.toNat a2 * (1 : Nat)) (0 : Int) < (-4096 : Int)) =
                  true then
              some ((100 : Int), ())
            else
              if
                  decide ((4096 : Int) < List.getD a4 (Int.toNat a1 * (16 : Nat) + Int.toNat a2 * (1 : Nat)) (0 : Int)) =
                    true then
                some ((100 : Int), ())
              else
                if decide (a3 ≤ a2) = true then
                  if
                      (!decide
                            (List.getD a4 (Int.toNat a1 * (16 : Nat) + Int.toNat a2 * (1 : Nat)) (0 : Int) = (0 : Int))) =
                        true then
                    some ((100 : Int), ())
                  else L32_7 k ((), a1, IntKind.wrap IntKind.i64 (a2 + (1 : Int)), ()) ((a3, a4, ()), ())
                else L32_7 k ((), a1, IntKind.wrap IntKind.i64 (a2 + (1 : Int)), ()) ((a3, a4, ()), ())
          else none
        else none
      else none
    else L32_4 k ((), IntKind.wrap IntKind.i64 (a1 + (1 : Int)), ()) ((a3, a4, ()), ())
def L32_4 : Nat → ps32_4.T → OPL.T os32_4 → Option (AT alts32)
  | 0, _, _ => none
  | k + 1, ((), (a1, ())), ((a2, (a3, ())), ()) =>
    if decide (a1 < (2 : Int)) = true then L32_7 k ((), a1, (0 : Int), ()) ((a2, a3, ()), ()) else some ((0 : Int), ())
end
def F32 (k : Nat) : pin32.T → OPL.T os32 → Option (AT alts32)
  | ((a1, (a2, ())), ()), () =>
    if decide (a1 < (2 : Int)) = true then some ((100 : Int), ())
    else if decide ((16 : Int) < a1) = true then some ((100 : Int), ()) else L32_4 k ((), (0 : Int), ()) ((a1, a2, ()), ())
noncomputable def T32 : List (Entry Try.prog) := []
noncomputable def cuts32 : List (Cut (AT alts32)) := [⟨7, [1, 3, 4], ps32_7, os32_7, L32_7⟩, ⟨4, [1, 3], ps32_4, os32_4, L32_4⟩]
theorem s32_7 : ∀ k x y, L32_7 (k + 1) x y = roundJ Try.prog (tableJ (T32)) (Lof 0 k (cuts32)) 7 body32 (endJ Try.prog 0 [.tmp 2] alts32) (stAt [1, 3, 4] ps32_7 os32_7 x y) := by
  rintro k ⟨⟨⟩, ⟨a1, ⟨a2, ⟨⟩⟩⟩⟩ ⟨⟨a3, ⟨a4, ⟨⟩⟩⟩, ⟨⟩⟩; kernel_rfl
theorem s32_4 : ∀ k x y, L32_4 (k + 1) x y = roundJ Try.prog (tableJ (T32)) (Lof 0 k (cuts32)) 4 body32 (endJ Try.prog 0 [.tmp 2] alts32) (stAt [1, 3] ps32_4 os32_4 x y) := by
  rintro k ⟨⟨⟩, ⟨a1, ⟨⟩⟩⟩ ⟨⟨a2, ⟨a3, ⟨⟩⟩⟩, ⟨⟩⟩; kernel_rfl
theorem e32 (k : Nat) : ∀ x y, F32 k x y = codeJ Try.prog (tableJ (T32)) (Lof 0 k (cuts32)) body32 (st0 pin32 os32 x y) (endJ Try.prog 0 [.tmp 2] alts32) := by
  rintro ⟨⟨a1, ⟨a2, ⟨⟩⟩⟩, ⟨⟩⟩ ⟨⟩; kernel_rfl
theorem k32 (k : Nat) : FnOK Try.prog 32 pin32 os32 alts32 (F32 k) :=
  fn_ok (fn := Try.f32) (body := body32) (cuts := cuts32) (k := k) (C := tableJ (T32)) (C' := tableJ (T32)) (table_ok _) (table_nat _) (table_ok _) mixed (by kernel_rfl) (by kernel_rfl) (by decide) (by kernel_rfl) (fun x => Nat.le_of_ble_eq_true (by kernel_rfl))
    (List.forall_mem_cons.2 ⟨fun x y => rfl, List.forall_mem_cons.2 ⟨fun x y => rfl, fun c h => by cases h⟩⟩) (List.forall_mem_cons.2 ⟨s32_7, List.forall_mem_cons.2 ⟨s32_4, fun c h => by cases h⟩⟩) (e32 k)
noncomputable def E32 (k : Nat) : Entry Try.prog := ⟨32, pin32, os32, alts32, F32 k, k32 k, rfl⟩
/-! 31 R.Widen -/
abbrev pin31 : VPL := (.cons (.agg (.cons (.int .i64) (.cons (.arr .i64 32) .nil))) .nil)
abbrev os31 : List OP := []
abbrev alts31 : List Alt := [(.tup (.cons (.agg (.cons (.int .i64) (.cons (.arr .i64 32) .nil))) (.cons (.int .i64) .nil)), [])]
noncomputable def body31 : Code := match Try.f31.body with
  | some c => c
  | none => .skip
def F31 (k : Nat) : pin31.T → OPL.T os31 → Option (AT alts31)
  | ((a1, (a2, ())), ()), () =>
    Option.bind ((F32 k) ((a1, a2, ()), ()) ()) fun val =>
      if (!decide (val.1 = (0 : Int))) = true then
        some ((((0 : Int), List.replicate (32 : Nat) (0 : Int), ()), val.1, ()), ())
      else
        if decide (a1 = (16 : Int)) = true then
          some ((((0 : Int), List.replicate (32 : Nat) (0 : Int), ()), (6 : Int), ()), ())
        else some (((IntKind.wrap IntKind.i64 (a1 + (1 : Int)), a2, ()), (0 : Int), ()), ())
noncomputable def T31 (K : Nat) : List (Entry Try.prog) := [E32 K]
noncomputable def cuts31 (K : Nat) : List (Cut (AT alts31)) := []
theorem e31 (k : Nat) : ∀ x y, F31 k x y = codeJ Try.prog (tableJ (T31 k)) (Lof 0 k (cuts31 k)) body31 (st0 pin31 os31 x y) (endJ Try.prog 0 [.cell 2 62, .tmp 3] alts31) := by
  rintro ⟨⟨a1, ⟨a2, ⟨⟩⟩⟩, ⟨⟩⟩ ⟨⟩; kernel_rfl
theorem k31 (k : Nat) : FnOK Try.prog 31 pin31 os31 alts31 (F31 k) :=
  fn_ok (fn := Try.f31) (body := body31) (cuts := cuts31 k) (k := k) (C := tableJ (T31 k)) (C' := tableJ (T31 k)) (table_ok _) (table_nat _) (table_ok _) mixed (by kernel_rfl) (by kernel_rfl) (by decide) (by kernel_rfl) (fun x => Nat.le_of_ble_eq_true (by kernel_rfl))
    (fun c h => by cases h) (fun c h => by cases h) (e31 k)
noncomputable def E31 (k : Nat) : Entry Try.prog := ⟨31, pin31, os31, alts31, F31 k, k31 k, rfl⟩
/-! 88 Len64 -/
abbrev pin88 : VPL := (.cons (.int .u64) .nil)
abbrev os88 : List OP := []
abbrev alts88 : List Alt := [(.int .i64, [])]
noncomputable def body88 : Code := match Try.f88.body with
  | some c => c
  | none => .skip
def F88 : pin88.T → OPL.T os88 → Option (AT alts88)
  | (a1, ()), () =>
    if decide ((4294967296 : Int) ≤ a1) = true then
      if decide ((65536 : Int) ≤ shr' IntKind.u64 a1 (32 : Int)) = true then
        if decide ((256 : Int) ≤ shr' IntKind.u64 (shr' IntKind.u64 a1 (32 : Int)) (16 : Int)) = true then
          if
              (0 : Int) ≤
                  IntKind.wrap IntKind.u8
                    (shr' IntKind.u64 (shr' IntKind.u64 (shr' IntKind.u64 a1 (32 : Int)) (16 : Int)) (8 : Int)) ∧
                IntKind.wrap IntKind.u8
                    (shr' IntKind.u64 (shr' IntKind.u64 (shr' IntKind.u64 a1 (32 : Int)) (16 : Int)) (8 : Int)) <
                  (256 : Int) then
            some
              (IntKind.wrap IntKind.i64
                  ((56 : Int) +
                    IntKind.wrap IntKind.i64
                      (List.getD
                        (List.map (fun b => (↑(BitVec.toNat b.1) : Int))
                          (List.append
                            (List.append
                              [(0 : UInt8), (1 : UInt8), (2 : UInt8), (2 : UInt8), (3 : UInt8), (3 : UInt8), (3 : UInt8),
                                (3 : UInt8), (4 : UInt8), (4 : UInt8), (4 : UInt8), (4 : UInt8), (4 : UInt8), (4 : UInt8),
                                (4 : UInt8), (4 : UInt8), (5 : UInt8), (5 : UInt8), (5 : UInt8), (5 : UInt8), (5 : UInt8),
                                (5 : UInt8), (5 : UInt8), (5 : UInt8), (5 : UInt8), (5 : UInt8), (5 : UInt8), (5 : UInt8),
                                (5 : UInt8), (5 : UInt8), (5 : UInt8), (5 : UInt8), (6 : UInt8), (6 : UInt8), (6 : UInt8),
                                (6 : UInt8), (6 : UInt8), (6 : UInt8), (6 : UInt8), (6 : UInt8), (6 : UInt8), (6 : UInt8),
                                (6 : UInt8), (6 : UInt8), (6 : UInt8), (6 : UInt8), (6 : UInt8), (6 : UInt8), (6 : UInt8),
                                (6 : UInt8), (6 : UInt8), (6 : UInt8), (6 : UInt8), (6 : UInt8), (6 : UInt8), (6 : UInt8),
                                (6 : UInt8), (6 : UInt8), (6 : UInt8), (6 : UInt8), (6 : UInt8), (6 : UInt8), (6 : UInt8),
                                (6 : UInt8)]
                              [(7 : UInt8), (7 : UInt8), (7 : UInt8), (7 : UInt8), (7 : UInt8), (7 : UInt8), (7 : UInt8),
                                (7 : UInt8), (7 : UInt8), (7 : UInt8), (7 : UInt8), (7 : UInt8), (7 : UInt8), (7 : UInt8),
                                (7 : UInt8), (7 : UInt8), (7 : UInt8), (7 : UInt8), (7 : UInt8), (7 : UInt8), (7 : UInt8),
                                (7 : UInt8), (7 : UInt8), (7 : UInt8), (7 : UInt8), (7 : UInt8), (7 : UInt8), (7 : UInt8),
                                (7 : UInt8), (7 : UInt8), (7 : UInt8), (7 : UInt8), (7 : UInt8), (7 : UInt8), (7 : UInt8),
                                (7 : UInt8), (7 : UInt8), (7 : UInt8), (7 : UInt8), (7 : UInt8), (7 : UInt8), (7 : UInt8),
                                (7 : UInt8), (7 : UInt8), (7 : UInt8), (7 : UInt8), (7 : UInt8), (7 : UInt8), (7 : UInt8),
                                (7 : UInt8), (7 : UInt8), (7 : UInt8), (7 : UInt8), (7 : UInt8), (7 : UInt8), (7 : UInt8),
                                (7 : UInt8), (7 : UInt8), (7 : UInt8), (7 : UInt8), (7 : UInt8), (7 : UInt8), (7 : UInt8),
                                (7 : UInt8)])
                            (List.append
                              [(8 : UInt8), (8 : UInt8), (8 : UInt8), (8 : UInt8), (8 : UInt8), (8 : UInt8), (8 : UInt8),
                                (8 : UInt8), (8 : UInt8), (8 : UInt8), (8 : UInt8), (8 : UInt8), (8 : UInt8), (8 : UInt8),
                                (8 : UInt8), (8 : UInt8), (8 : UInt8), (8 : UInt8), (8 : UInt8), (8 : UInt8), (8 : UInt8),
                                (8 : UInt8), (8 : UInt8), (8 : UInt8), (8 : UInt8), (8 : UInt8), (8 : UInt8), (8 : UInt8),
                                (8 : UInt8), (8 : UInt8), (8 : UInt8), (8 : UInt8), (8 : UInt8), (8 : UInt8), (8 : UInt8),
                                (8 : UInt8), (8 : UInt8), (8 : UInt8), (8 : UInt8), (8 : UInt8), (8 : UInt8), (8 : UInt8),
                                (8 : UInt8), (8 : UInt8), (8 : UInt8), (8 : UInt8), (8 : UInt8), (8 : UInt8), (8 : UInt8),
                                (8 : UInt8), (8 : UInt8), (8 : UInt8), (8 : UInt8), (8 : UInt8), (8 : UInt8), (8 : UInt8),
                                (8 : UInt8), (8 : UInt8), (8 : UInt8), (8 : UInt8), (8 : UInt8), (8 : UInt8), (8 : UInt8),
                                (8 : UInt8)]
                              [(8 : UInt8), (8 : UInt8), (8 : UInt8), (8 : UInt8), (8 : UInt8), (8 : UInt8), (8 : UInt8),
                                (8 : UInt8), (8 : UInt8), (8 : UInt8), (8 : UInt8), (8 : UInt8), (8 : UInt8), (8 : UInt8),
                                (8 : UInt8), (8 : UInt8), (8 : UInt8), (8 : UInt8), (8 : UInt8), (8 : UInt8), (8 : UInt8),
                                (8 : UInt8), (8 : UInt8), (8 : UInt8), (8 : UInt8), (8 : UInt8), (8 : UInt8), (8 : UInt8),
                                (8 : UInt8), (8 : UInt8), (8 : UInt8), (8 : UInt8), (8 : UInt8), (8 : UInt8), (8 : UInt8),
                                (8 : UInt8), (8 : UInt8), (8 : UInt8), (8 : UInt8), (8 : UInt8), (8 : UInt8), (8 : UInt8),
                                (8 : UInt8), (8 : UInt8), (8 : UInt8), (8 : UInt8), (8 : UInt8), (8 : UInt8), (8 : UInt8),
                                (8 : UInt8), (8 : UInt8), (8 : UInt8), (8 : UInt8), (8 : UInt8), (8 : UInt8), (8 : UInt8),
                                (8 : UInt8), (8 : UInt8), (8 : UInt8), (8 : UInt8), (8 : UInt8), (8 : UInt8), (8 : UInt8),
                                (8 : UInt8)])))
                        (Int.toNat
                          (IntKind.wrap IntKind.u8
                            (shr' IntKind.u64 (shr' IntKind.u64 (shr' IntKind.u64 a1 (32 : Int)) (16 : Int)) (8 : Int))))
                        (0 : Int))),
                ())
          else none
        else
          if
              (0 : Int) ≤ IntKind.wrap IntKind.u8 (shr' IntKind.u64 (shr' IntKind.u64 a1 (32 : Int)) (16 : Int)) ∧
                IntKind.wrap IntKind.u8 (shr' IntKind.u64 (shr' IntKind.u64 a1 (32 : Int)) (16 : Int)) < (256 : Int) then
            some
              (IntKind.wrap IntKind.i64
                  ((48 : Int) +
                    IntKind.wrap IntKind.i64
                      (List.getD
                        (List.map (fun b => (↑(BitVec.toNat b.1) : Int))
                          (List.append
                            (List.append
                              [(0 : UInt8), (1 : UInt8), (2 : UInt8), (2 : UInt8), (3 : UInt8), (3 : UInt8), (3 : UInt8),
                                (3 : UInt8), (4 : UInt8), (4 : UInt8), (4 : UInt8), (4 : UInt8), (4 : UInt8), (4 : UInt8),
                                (4 : UInt8), (4 : UInt8), (5 : UInt8), (5 : UInt8), (5 : UInt8), (5 : UInt8), (5 : UInt8),
                                (5 : UInt8), (5 : UInt8), (5 : UInt8), (5 : UInt8), (5 : UInt8), (5 : UInt8), (5 : UInt8),
                                (5 : UInt8), (5 : UInt8), (5 : UInt8), (5 : UInt8), (6 : UInt8), (6 : UInt8), (6 : UInt8),
                                (6 : UInt8), (6 : UInt8), (6 : UInt8), (6 : UInt8), (6 : UInt8), (6 : UInt8), (6 : UInt8),
                                (6 : UInt8), (6 : UInt8), (6 : UInt8), (6 : UInt8), (6 : UInt8), (6 : UInt8), (6 : UInt8),
                                (6 : UInt8), (6 : UInt8), (6 : UInt8), (6 : UInt8), (6 : UInt8), (6 : UInt8), (6 : UInt8),
                                (6 : UInt8), (6 : UInt8), (6 : UInt8), (6 : UInt8), (6 : UInt8), (6 : UInt8), (6 : UInt8),
                                (6 : UInt8)]
                              [(7 : UInt8), (7 : UInt8), (7 : UInt8), (7 : UInt8), (7 : UInt8), (7 : UInt8), (7 : UInt8),
                                (7 : UInt8), (7 : UInt8), (7 : UInt8), (7 : UInt8), (7 : UInt8), (7 : UInt8), (7 : UInt8),
                                (7 : UInt8), (7 : UInt8), (7 : UInt8), (7 : UInt8), (7 : UInt8), (7 : UInt8), (7 : UInt8),
                                (7 : UInt8), (7 : UInt8), (7 : UInt8), (7 : UInt8), (7 : UInt8), (7 : UInt8), (7 : UInt8),
                                (7 : UInt8), (7 : UInt8), (7 : UInt8), (7 : UInt8), (7 : UInt8), (7 : UInt8), (7 : UInt8),
                                (7 : UInt8), (7 : UInt8), (7 : UInt8), (7 : UInt8), (7 : UInt8), (7 : UInt8), (7 : UInt8),
                                (7 : UInt8), (7 : UInt8), (7 : UInt8), (7 : UInt8), (7 : UInt8), (7 : UInt8), (7 : UInt8),
                                (7 : UInt8), (7 : UInt8), (7 : UInt8), (7 : UInt8), (7 : UInt8), (7 : UInt8), (7 : UInt8),
                                (7 : UInt8), (7 : UInt8), (7 : UInt8), (7 : UInt8), (7 : UInt8), (7 : UInt8), (7 : UInt8),
                                (7 : UInt8)])
                            (List.append
                              [(8 : UInt8), (8 : UInt8), (8 : UInt8), (8 : UInt8), (8 : UInt8), (8 : UInt8), (8 : UInt8),
                                (8 : UInt8), (8 : UInt8), (8 : UInt8), (8 : UInt8), (8 : UInt8), (8 : UInt8), (8 : UInt8),
                                (8 : UInt8), (8 : UInt8), (8 : UInt8), (8 : UInt8), (8 : UInt8), (8 : UInt8), (8 : UInt8),
                                (8 : UInt8), (8 : UInt8), (8 : UInt8), (8 : UInt8), (8 : UInt8), (8 : UInt8), (8 : UInt8),
                                (8 : UInt8), (8 : UInt8), (8 : UInt8), (8 : UInt8), (8 : UInt8), (8 : UInt8), (8 : UInt8),
                                (8 : UInt8), (8 : UInt8), (8 : UInt8), (8 : UInt8), (8 : UInt8), (8 : UInt8), (8 : UInt8),
                                (8 : UInt8), (8 : UInt8), (8 : UInt8), (8 : UInt8), (8 : UInt8), (8 : UInt8), (8 : UInt8),
                                (8 : UInt8), (8 : UInt8), (8 : UInt8), (8 : UInt8), (8 : UInt8), (8 : UInt8), (8 : UInt8),
                                (8 : UInt8), (8 : UInt8), (8 : UInt8), (8 : UInt8), (8 : UInt8), (8 : UInt8), (8 : UInt8),
                                (8 : UInt8)]
                              [(8 : UInt8), (8 : UInt8), (8 : UInt8), (8 : UInt8), (8 : UInt8), (8 : UInt8), (8 : UInt8),
                                (8 : UInt8), (8 : UInt8), (8 : UInt8), (8 : UInt8), (8 : UInt8), (8 : UInt8), (8 : UInt8),
                                (8 : UInt8), (8 : UInt8), (8 : UInt8), (8 : UInt8), (8 : UInt8), (8 : UInt8), (8 : UInt8),
                                (8 : UInt8), (8 : UInt8), (8 : UInt8), (8 : UInt8), (8 : UInt8), (8 : UInt8), (8 : UInt8),
                                (8 : UInt8), (8 : UInt8), (8 : UInt8), (8 : UInt8), (8 : UInt8), (8 : UInt8), (8 : UInt8),
                                (8 : UInt8), (8 : UInt8), (8 : UInt8), (8 : UInt8), (8 : UInt8), (8 : UInt8), (8 : UInt8),
                                (8 : UInt8), (8 : UInt8), (8 : UInt8), (8 : UInt8), (8 : UInt8), (8 : UInt8), (8 : UInt8),
                                (8 : UInt8), (8 : UInt8), (8 : UInt8), (8 : UInt8), (8 : UInt8), (8 : UInt8), (8 : UInt8),
                                (8 : UInt8), (8 : UInt8), (8 : UInt8), (8 : UInt8), (8 : UInt8), (8 : UInt8), (8 : UInt8),
                                (8 : UInt8)])))
                        (Int.toNat (IntKind.wrap IntKind.u8 (shr' IntKind.u64 (shr' IntKind.u64 a1 (32 : Int)) (16 : Int))))
                        (0 : Int))),
                ())
          else none
      else
        if decide ((256 : Int) ≤ shr' IntKind.u64 a1 (32 : Int)) = true then
          if
              (0 : Int) ≤ IntKind.wrap IntKind.u8 (shr' IntKind.u64 (shr' IntKind.u64 a1 (32 : Int)) (8 : Int)) ∧
                IntKind.wrap IntKind.u8 (shr' IntKind.u64 (shr' IntKind.u64 a1 (32 : Int)) (8 : Int)) < (256 : Int) then
            some
              (IntKind.wrap IntKind.i64
                  ((40 : Int) +
                    IntKind.wrap IntKind.i64
                      (List.getD
                        (List.map (fun b => (↑(BitVec.toNat b.1) : Int))
                          (List.append
                            (List.append
                              [(0 : UInt8), (1 : UInt8), (2 : UInt8), (2 : UInt8), (3 : UInt8), (3 : UInt8), (3 : UInt8),
                                (3 : UInt8), (4 : UInt8), (4 : UInt8), (4 : UInt8), (4 : UInt8), (4 : UInt8), (4 : UInt8),
                                (4 : UInt8), (4 : UInt8), (5 : UInt8), (5 : UInt8), (5 : UInt8), (5 : UInt8), (5 : UInt8),
                                (5 : UInt8), (5 : UInt8), (5 : UInt8), (5 : UInt8), (5 : UInt8), (5 : UInt8), (5 : UInt8),
                                (5 : UInt8), (5 : UInt8), (5 : UInt8), (5 : UInt8), (6 : UInt8), (6 : UInt8), (6 : UInt8),
                                (6 : UInt8), (6 : UInt8), (6 : UInt8), (6 : UInt8), (6 : UInt8), (6 : UInt8), (6 : UInt8),
                                (6 : UInt8), (6 : UInt8), (6 : UInt8), (6 : UInt8), (6 : UInt8), (6 : UInt8), (6 : UInt8),
                                (6 : UInt8), (6 : UInt8), (6 : UInt8), (6 : UInt8), (6 : UInt8), (6 : UInt8), (6 : UInt8),
                                (6 : UInt8), (6 : UInt8), (6 : UInt8), (6 : UInt8), (6 : UInt8), (6 : UInt8), (6 : UInt8),
                                (6 : UInt8)]
                              [(7 : UInt8), (7 : UInt8), (7 : UInt8), (7 : UInt8), (7 : UInt8), (7 : UInt8), (7 : UInt8),
                                (7 : UInt8), (7 : UInt8), (7 : UInt8), (7 : UInt8), (7 : UInt8), (7 : UInt8), (7 : UInt8),
                                (7 : UInt8), (7 : UInt8), (7 : UInt8), (7 : UInt8), (7 : UInt8), (7 : UInt8), (7 : UInt8),
                                (7 : UInt8), (7 : UInt8), (7 : UInt8), (7 : UInt8), (7 : UInt8), (7 : UInt8), (7 : UInt8),
                                (7 : UInt8), (7 : UInt8), (7 : UInt8), (7 : UInt8), (7 : UInt8), (7 : UInt8), (7 : UInt8),
                                (7 : UInt8), (7 : UInt8), (7 : UInt8), (7 : UInt8), (7 : UInt8), (7 : UInt8), (7 : UInt8),
                                (7 : UInt8), (7 : UInt8), (7 : UInt8), (7 : UInt8), (7 : UInt8), (7 : UInt8), (7 : UInt8),
                                (7 : UInt8), (7 : UInt8), (7 : UInt8), (7 : UInt8), (7 : UInt8), (7 : UInt8), (7 : UInt8),
                                (7 : UInt8), (7 : UInt8), (7 : UInt8), (7 : UInt8), (7 : UInt8), (7 : UInt8), (7 : UInt8),
                                (7 : UInt8)])
                            (List.append
                              [(8 : UInt8), (8 : UInt8), (8 : UInt8), (8 : UInt8), (8 : UInt8), (8 : UInt8), (8 : UInt8),
                                (8 : UInt8), (8 : UInt8), (8 : UInt8), (8 : UInt8), (8 : UInt8), (8 : UInt8), (8 : UInt8),
                                (8 : UInt8), (8 : UInt8), (8 : UInt8), (8 : UInt8), (8 : UInt8), (8 : UInt8), (8 : UInt8),
                                (8 : UInt8), (8 : UInt8), (8 : UInt8), (8 : UInt8), (8 : UInt8), (8 : UInt8), (8 : UInt8),
                                (8 : UInt8), (8 : UInt8), (8 : UInt8), (8 : UInt8), (8 : UInt8), (8 : UInt8), (8 : UInt8),
                                (8 : UInt8), (8 : UInt8), (8 : UInt8), (8 : UInt8), (8 : UInt8), (8 : UInt8), (8 : UInt8),
                                (8 : UInt8), (8 : UInt8), (8 : UInt8), (8 : UInt8), (8 : UInt8), (8 : UInt8), (8 : UInt8),
                                (8 : UInt8), (8 : UInt8), (8 : UInt8), (8 : UInt8), (8 : UInt8), (8 : UInt8), (8 : UInt8),
                                (8 : UInt8), (8 : UInt8), (8 : UInt8), (8 : UInt8), (8 : UInt8), (8 : UInt8), (8 : UInt8),
                                (8 : UInt8)]
                              [(8 : UInt8), (8 : UInt8), (8 : UInt8), (8 : UInt8), (8 : UInt8), (8 : UInt8), (8 : UInt8),
                                (8 : UInt8), (8 : UInt8), (8 : UInt8), (8 : UInt8), (8 : UInt8), (8 : UInt8), (8 : UInt8),
                                (8 : UInt8), (8 : UInt8), (8 : UInt8), (8 : UInt8), (8 : UInt8), (8 : UInt8), (8 : UInt8),
                                (8 : UInt8), (8 : UInt8), (8 : UInt8), (8 : UInt8), (8 : UInt8), (8 : UInt8), (8 : UInt8),
                                (8 : UInt8), (8 : UInt8), (8 : UInt8), (8 : UInt8), (8 : UInt8), (8 : UInt8), (8 : UInt8),
                                (8 : UInt8), (8 : UInt8), (8 : UInt8), (8 : UInt8), (8 : UInt8), (8 : UInt8), (8 : UInt8),
                                (8 : UInt8), (8 : UInt8), (8 : UInt8), (8 : UInt8), (8 : UInt8), (8 : UInt8), (8 : UInt8),
                                (8 : UInt8), (8 : UInt8), (8 : UInt8), (8 : UInt8), (8 : UInt8), (8 : UInt8), (8 : UInt8),
                                (8 : UInt8), (8 : UInt8), (8 : UInt8), (8 : UInt8), (8 : UInt8), (8 : UInt8), (8 : UInt8),
                                (8 : UInt8)])))
                        (Int.toNat (IntKind.wrap IntKind.u8 (shr' IntKind.u64 (shr' IntKind.u64 a1 (32 : Int)) (8 : Int))))
                        (0 : Int))),
                ())
          else none
        else
          if
              (0 : Int) ≤ IntKind.wrap IntKind.u8 (shr' IntKind.u64 a1 (32 : Int)) ∧
                IntKind.wrap IntKind.u8 (shr' IntKind.u64 a1 (32 : Int)) < (256 : Int) then
            some
              (IntKind.wrap IntKind.i64
                  ((32 : Int) +
                    IntKind.wrap IntKind.i64
                      (List.getD
                        (List.map (fun b => (↑(BitVec.toNat b.1) : Int))
                          (List.append
                            (List.append
                              [(0 : UInt8), (1 : UInt8), (2 : UInt8), (2 : UInt8), (3 : UInt8), (3 : UInt8), (3 : UInt8),
                                (3 : UInt8), (4 : UInt8), (4 : UInt8), (4 : UInt8), (4 : UInt8), (4 : UInt8), (4 : UInt8),
                                (4 : UInt8), (4 : UInt8), (5 : UInt8), (5 : UInt8), (5 : UInt8), (5 : UInt8), (5 : UInt8),
                                (5 : UInt8), (5 : UInt8), (5 : UInt8), (5 : UInt8), (5 : UInt8), (5 : UInt8), (5 : UInt8),
                                (5 : UInt8), (5 : UInt8), (5 : UInt8), (5 : UInt8), (6 : UInt8), (6 : UInt8), (6 : UInt8),
                                (6 : UInt8), (6 : UInt8), (6 : UInt8), (6 : UInt8), (6 : UInt8), (6 : UInt8), (6 : UInt8),
                                (6 : UInt8), (6 : UInt8), (6 : UInt8), (6 : UInt8), (6 : UInt8), (6 : UInt8), (6 : UInt8),
                                (6 : UInt8), (6 : UInt8), (6 : UInt8), (6 : UInt8), (6 : UInt8), (6 : UInt8), (6 : UInt8),
                                (6 : UInt8), (6 : UInt8), (6 : UInt8), (6 : UInt8), (6 : UInt8), (6 : UInt8), (6 : UInt8),
                                (6 : UInt8)]
                              [(7 : UInt8), (7 : UInt8), (7 : UInt8), (7 : UInt8), (7 : UInt8), (7 : UInt8), (7 : UInt8),
                                (7 : UInt8), (7 : UInt8), (7 : UInt8), (7 : UInt8), (7 : UInt8), (7 : UInt8), (7 : UInt8),
                                (7 : UInt8), (7 : UInt8), (7 : UInt8), (7 : UInt8), (7 : UInt8), (7 : UInt8), (7 : UInt8),
                                (7 : UInt8), (7 : UInt8), (7 : UInt8), (7 : UInt8), (7 : UInt8), (7 : UInt8), (7 : UInt8),
                                (7 : UInt8), (7 : UInt8), (7 : UInt8), (7 : UInt8), (7 : UInt8), (7 : UInt8), (7 : UInt8),
                                (7 : UInt8), (7 : UInt8), (7 : UInt8), (7 : UInt8), (7 : UInt8), (7 : UInt8), (7 : UInt8),
                                (7 : UInt8), (7 : UInt8), (7 : UInt8), (7 : UInt8), (7 : UInt8), (7 : UInt8), (7 : UInt8),
                                (7 : UInt8), (7 : UInt8), (7 : UInt8), (7 : UInt8), (7 : UInt8), (7 : UInt8), (7 : UInt8),
                                (7 : UInt8), (7 : UInt8), (7 : UInt8), (7 : UInt8), (7 : UInt8), (7 : UInt8), (7 : UInt8),
                                (7 : UInt8)])
                            (List.append
                              [(8 : UInt8), (8 : UInt8), (8 : UInt8), (8 : UInt8), (8 : UInt8), (8 : UInt8), (8 : UInt8),
                                (8 : UInt8), (8 : UInt8), (8 : UInt8), (8 : UInt8), (8 : UInt8), (8 : UInt8), (8 : UInt8),
                                (8 : UInt8), (8 : UInt8), (8 : UInt8), (8 : UInt8), (8 : UInt8), (8 : UInt8), (8 : UInt8),
                                (8 : UInt8), (8 : UInt8), (8 : UInt8), (8 : UInt8), (8 : UInt8), (8 : UInt8), (8 : UInt8),
                                (8 : UInt8), (8 : UInt8), (8 : UInt8), (8 : UInt8), (8 : UInt8), (8 : UInt8), (8 : UInt8),
                                (8 : UInt8), (8 : UInt8), (8 : UInt8), (8 : UInt8), (8 : UInt8), (8 : UInt8), (8 : UInt8),
                                (8 : UInt8), (8 : UInt8), (8 : UInt8), (8 : UInt8), (8 : UInt8), (8 : UInt8), (8 : UInt8),
                                (8 : UInt8), (8 : UInt8), (8 : UInt8), (8 : UInt8), (8 : UInt8), (8 : UInt8), (8 : UInt8),
                                (8 : UInt8), (8 : UInt8), (8 : UInt8), (8 : UInt8), (8 : UInt8), (8 : UInt8), (8 : UInt8),
                                (8 : UInt8)]
                              [(8 : UInt8), (8 : UInt8), (8 : UInt8), (8 : UInt8), (8 : UInt8), (8 : UInt8), (8 : UInt8),
                                (8 : UInt8), (8 : UInt8), (8 : UInt8), (8 : UInt8), (8 : UInt8), (8 : UInt8), (8 : UInt8),
                                (8 : UInt8), (8 : UInt8), (8 : UInt8), (8 : UInt8), (8 : UInt8), (8 : UInt8), (8 : UInt8),
                                (8 : UInt8), (8 : UInt8), (8 : UInt8), (8 : UInt8), (8 : UInt8), (8 : UInt8), (8 : UInt8),
                                (8 : UInt8), (8 : UInt8), (8 : UInt8), (8 : UInt8), (8 : UInt8), (8 : UInt8), (8 : UInt8),
                                (8 : UInt8), (8 : UInt8), (8 : UInt8), (8 : UInt8), (8 : UInt8), (8 : UInt8), (8 : UInt8),
                                (8 : UInt8), (8 : UInt8), (8 : UInt8), (8 : UInt8), (8 : UInt8), (8 : UInt8), (8 : UInt8),
                                (8 : UInt8), (8 : UInt8), (8 : UInt8), (8 : UInt8), (8 : UInt8), (8 : UInt8), (8 : UInt8),
                                (8 : UInt8), (8 : UInt8), (8 : UInt8), (8 : UInt8), (8 : UInt8), (8 : UInt8), (8 : UInt8),
                                (8 : UInt8)])))
                        (Int.toNat (IntKind.wrap IntKind.u8 (shr' IntKind.u64 a1 (32 : Int)))) (0 : Int))),
                ())
          else none
    else
      if decide ((65536 : Int) ≤ a1) = true then
        if decide ((256 : Int) ≤ shr' IntKind.u64 a1 (16 : Int)) = true then
          if
              (0 : Int) ≤ IntKind.wrap IntKind.u8 (shr' IntKind.u64 (shr' IntKind.u64 a1 (16 : Int)) (8 : Int)) ∧
                IntKind.wrap IntKind.u8 (shr' IntKind.u64 (shr' IntKind.u64 a1 (16 : Int)) (8 : Int)) < (256 : Int) then
            some
              (IntKind.wrap IntKind.i64
                  ((24 : Int) +
                    IntKind.wrap IntKind.i64
                      (List.getD
                        (List.map (fun b => (↑(BitVec.toNat b.1) : Int))
                          (List.append
                            (List.append
                              [(0 : UInt8), (1 : UInt8), (2 : UInt8), (2 : UInt8), (3 : UInt8), (3 : UInt8), (3 : UInt8),
                                (3 : UInt8), (4 : UInt8), (4 : UInt8), (4 : UInt8), (4 : UInt8), (4 : UInt8), (4 : UInt8),
                                (4 : UInt8), (4 : UInt8), (5 : UInt8), (5 : UInt8), (5 : UInt8), (5 : UInt8), (5 : UInt8),
                                (5 : UInt8), (5 : UInt8), (5 : UInt8), (5 : UInt8), (5 : UInt8), (5 : UInt8), (5 : UInt8),
                                (5 : UInt8), (5 : UInt8), (5 : UInt8), (5 : UInt8), (6 : UInt8), (6 : UInt8), (6 : UInt8),
                                (6 : UInt8), (6 : UInt8), (6 : UInt8), (6 : UInt8), (6 : UInt8), (6 : UInt8), (6 : UInt8),
                                (6 : UInt8), (6 : UInt8), (6 : UInt8), (6 : UInt8), (6 : UInt8), (6 : UInt8), (6 : UInt8),
                                (6 : UInt8), (6 : UInt8), (6 : UInt8), (6 : UInt8), (6 : UInt8), (6 : UInt8), (6 : UInt8),
                                (6 : UInt8), (6 : UInt8), (6 : UInt8), (6 : UInt8), (6 : UInt8), (6 : UInt8), (6 : UInt8),
                                (6 : UInt8)]
                              [(7 : UInt8), (7 : UInt8), (7 : UInt8), (7 : UInt8), (7 : UInt8), (7 : UInt8), (7 : UInt8),
                                (7 : UInt8), (7 : UInt8), (7 : UInt8), (7 : UInt8), (7 : UInt8), (7 : UInt8), (7 : UInt8),
                                (7 : UInt8), (7 : UInt8), (7 : UInt8), (7 : UInt8), (7 : UInt8), (7 : UInt8), (7 : UInt8),
                                (7 : UInt8), (7 : UInt8), (7 : UInt8), (7 : UInt8), (7 : UInt8), (7 : UInt8), (7 : UInt8),
                                (7 : UInt8), (7 : UInt8), (7 : UInt8), (7 : UInt8), (7 : UInt8), (7 : UInt8), (7 : UInt8),
                                (7 : UInt8), (7 : UInt8), (7 : UInt8), (7 : UInt8), (7 : UInt8), (7 : UInt8), (7 : UInt8),
                                (7 : UInt8), (7 : UInt8), (7 : UInt8), (7 : UInt8), (7 : UInt8), (7 : UInt8), (7 : UInt8),
                                (7 : UInt8), (7 : UInt8), (7 : UInt8), (7 : UInt8), (7 : UInt8), (7 : UInt8), (7 : UInt8),
                                (7 : UInt8), (7 : UInt8), (7 : UInt8), (7 : UInt8), (7 : UInt8), (7 : UInt8), (7 : UInt8),
                                (7 : UInt8)])
                            (List.append
                              [(8 : UInt8), (8 : UInt8), (8 : UInt8), (8 : UInt8), (8 : UInt8), (8 : UInt8), (8 : UInt8),
                                (8 : UInt8), (8 : UInt8), (8 : UInt8), (8 : UInt8), (8 : UInt8), (8 : UInt8), (8 : UInt8),
                                (8 : UInt8), (8 : UInt8), (8 : UInt8), (8 : UInt8), (8 : UInt8), (8 : UInt8), (8 : UInt8),
                                (8 : UInt8), (8 : UInt8), (8 : UInt8), (8 : UInt8), (8 : UInt8), (8 : UInt8), (8 : UInt8),
                                (8 : UInt8), (8 : UInt8), (8 : UInt8), (8 : UInt8), (8 : UInt8), (8 : UInt8), (8 : UInt8),
                                (8 : UInt8), (8 : UInt8), (8 : UInt8), (8 : UInt8), (8 : UInt8), (8 : UInt8), (8 : UInt8),
                                (8 : UInt8), (8 : UInt8), (8 : UInt8), (8 : UInt8), (8 : UInt8), (8 : UInt8), (8 : UInt8),
                                (8 : UInt8), (8 : UInt8), (8 : UInt8), (8 : UInt8), (8 : UInt8), (8 : UInt8), (8 : UInt8),
                                (8 : UInt8), (8 : UInt8), (8 : UInt8), (8 : UInt8), (8 : UInt8), (8 : UInt8), (8 : UInt8),
                                (8 : UInt8)]
                              [(8 : UInt8), (8 : UInt8), (8 : UInt8), (8 : UInt8), (8 : UInt8), (8 : UInt8), (8 : UInt8),
                                (8 : UInt8), (8 : UInt8), (8 : UInt8), (8 : UInt8), (8 : UInt8), (8 : UInt8), (8 : UInt8),
                                (8 : UInt8), (8 : UInt8), (8 : UInt8), (8 : UInt8), (8 : UInt8), (8 : UInt8), (8 : UInt8),
                                (8 : UInt8), (8 : UInt8), (8 : UInt8), (8 : UInt8), (8 : UInt8), (8 : UInt8), (8 : UInt8),
                                (8 : UInt8), (8 : UInt8), (8 : UInt8), (8 : UInt8), (8 : UInt8), (8 : UInt8), (8 : UInt8),
                                (8 : UInt8), (8 : UInt8), (8 : UInt8), (8 : UInt8), (8 : UInt8), (8 : UInt8), (8 : UInt8),
                                (8 : UInt8), (8 : UInt8), (8 : UInt8), (8 : UInt8), (8 : UInt8), (8 : UInt8), (8 : UInt8),
                                (8 : UInt8), (8 : UInt8), (8 : UInt8), (8 : UInt8), (8 : UInt8), (8 : UInt8), (8 : UInt8),
                                (8 : UInt8), (8 : UInt8), (8 : UInt8), (8 : UInt8), (8 : UInt8), (8 : UInt8), (8 : UInt8),
                                (8 : UInt8)])))
                        (Int.toNat (IntKind.wrap IntKind.u8 (shr' IntKind.u64 (shr' IntKind.u64 a1 (16 : Int)) (8 : Int))))
                        (0 : Int))),
                ())
          else none
        else
          if
              (0 : Int) ≤ IntKind.wrap IntKind.u8 (shr' IntKind.u64 a1 (16 : Int)) ∧
                IntKind.wrap IntKind.u8 (shr' IntKind.u64 a1 (16 : Int)) < (256 : Int) then
            some
              (IntKind.wrap IntKind.i64
                  ((16 : Int) +
                    IntKind.wrap IntKind.i64
                      (List.getD
                        (List.map (fun b => (↑(BitVec.toNat b.1) : Int))
                          (List.append
                            (List.append
                              [(0 : UInt8), (1 : UInt8), (2 : UInt8), (2 : UInt8), (3 : UInt8), (3 : UInt8), (3 : UInt8),
                                (3 : UInt8), (4 : UInt8), (4 : UInt8), (4 : UInt8), (4 : UInt8), (4 : UInt8), (4 : UInt8),
                                (4 : UInt8), (4 : UInt8), (5 : UInt8), (5 : UInt8), (5 : UInt8), (5 : UInt8), (5 : UInt8),
                                (5 : UInt8), (5 : UInt8), (5 : UInt8), (5 : UInt8), (5 : UInt8), (5 : UInt8), (5 : UInt8),
                                (5 : UInt8), (5 : UInt8), (5 : UInt8), (5 : UInt8), (6 : UInt8), (6 : UInt8), (6 : UInt8),
                                (6 : UInt8), (6 : UInt8), (6 : UInt8), (6 : UInt8), (6 : UInt8), (6 : UInt8), (6 : UInt8),
                                (6 : UInt8), (6 : UInt8), (6 : UInt8), (6 : UInt8), (6 : UInt8), (6 : UInt8), (6 : UInt8),
                                (6 : UInt8), (6 : UInt8), (6 : UInt8), (6 : UInt8), (6 : UInt8), (6 : UInt8), (6 : UInt8),
                                (6 : UInt8), (6 : UInt8), (6 : UInt8), (6 : UInt8), (6 : UInt8), (6 : UInt8), (6 : UInt8),
                                (6 : UInt8)]
                              [(7 : UInt8), (7 : UInt8), (7 : UInt8), (7 : UInt8), (7 : UInt8), (7 : UInt8), (7 : UInt8),
                                (7 : UInt8), (7 : UInt8), (7 : UInt8), (7 : UInt8), (7 : UInt8), (7 : UInt8), (7 : UInt8),
                                (7 : UInt8), (7 : UInt8), (7 : UInt8), (7 : UInt8), (7 : UInt8), (7 : UInt8), (7 : UInt8),
                                (7 : UInt8), (7 : UInt8), (7 : UInt8), (7 : UInt8), (7 : UInt8), (7 : UInt8), (7 : UInt8),
                                (7 : UInt8), (7 : UInt8), (7 : UInt8), (7 : UInt8), (7 : UInt8), (7 : UInt8), (7 : UInt8),
                                (7 : UInt8), (7 : UInt8), (7 : UInt8), (7 : UInt8), (7 : UInt8), (7 : UInt8), (7 : UInt8),
                                (7 : UInt8), (7 : UInt8), (7 : UInt8), (7 : UInt8), (7 : UInt8), (7 : UInt8), (7 : UInt8),
                                (7 : UInt8), (7 : UInt8), (7 : UInt8), (7 : UInt8), (7 : UInt8), (7 : UInt8), (7 : UInt8),
                                (7 : UInt8), (7 : UInt8), (7 : UInt8), (7 : UInt8), (7 : UInt8), (7 : UInt8), (7 : UInt8),
                                (7 : UInt8)])
                            (List.append
                              [(8 : UInt8), (8 : UInt8), (8 : UInt8), (8 : UInt8), (8 : UInt8), (8 : UInt8), (8 : UInt8),
                                (8 : UInt8), (8 : UInt8), (8 : UInt8), (8 : UInt8), (8 : UInt8), (8 : UInt8), (8 : UInt8),
                                (8 : UInt8), (8 : UInt8), (8 : UInt8), (8 : UInt8), (8 : UInt8), (8 : UInt8), (8 : UInt8),
                                (8 : UInt8), (8 : UInt8), (8 : UInt8), (8 : UInt8), (8 : UInt8), (8 : UInt8), (8 : UInt8),
                                (8 : UInt8), (8 : UInt8), (8 : UInt8), (8 : UInt8), (8 : UInt8), (8 : UInt8), (8 : UInt8),
                                (8 : UInt8), (8 : UInt8), (8 : UInt8), (8 : UInt8), (8 : UInt8), (8 : UInt8), (8 : UInt8),
                                (8 : UInt8), (8 : UInt8), (8 : UInt8), (8 : UInt8), (8 : UInt8), (8 : UInt8), (8 : UInt8),
                                (8 : UInt8), (8 : UInt8), (8 : UInt8), (8 : UInt8), (8 : UInt8), (8 : UInt8), (8 : UInt8),
                                (8 : UInt8), (8 : UInt8), (8 : UInt8), (8 : UInt8), (8 : UInt8), (8 : UInt8), (8 : UInt8),
                                (8 : UInt8)]
                              [(8 : UInt8), (8 : UInt8), (8 : UInt8), (8 : UInt8), (8 : UInt8), (8 : UInt8), (8 : UInt8),
                                (8 : UInt8), (8 : UInt8), (8 : UInt8), (8 : UInt8), (8 : UInt8), (8 : UInt8), (8 : UInt8),
                                (8 : UInt8), (8 : UInt8), (8 : UInt8), (8 : UInt8), (8 : UInt8), (8 : UInt8), (8 : UInt8),
                                (8 : UInt8), (8 : UInt8), (8 : UInt8), (8 : UInt8), (8 : UInt8), (8 : UInt8), (8 : UInt8),
                                (8 : UInt8), (8 : UInt8), (8 : UInt8), (8 : UInt8), (8 : UInt8), (8 : UInt8), (8 : UInt8),
                                (8 : UInt8), (8 : UInt8), (8 : UInt8), (8 : UInt8), (8 : UInt8), (8 : UInt8), (8 : UInt8),
                                (8 : UInt8), (8 : UInt8), (8 : UInt8), (8 : UInt8), (8 : UInt8), (8 : UInt8), (8 : UInt8),
                                (8 : UInt8), (8 : UInt8), (8 : UInt8), (8 : UInt8), (8 : UInt8), (8 : UInt8), (8 : UInt8),
                                (8 : UInt8), (8 : UInt8), (8 : UInt8), (8 : UInt8), (8 : UInt8), (8 : UInt8), (8 : UInt8),
                                (8 : UInt8)])))
                        (Int.toNat (IntKind.wrap IntKind.u8 (shr' IntKind.u64 a1 (16 : Int)))) (0 : Int))),
                ())
          else none
      else
        if decide ((256 : Int) ≤ a1) = true then
          if
              (0 : Int) ≤ IntKind.wrap IntKind.u8 (shr' IntKind.u64 a1 (8 : Int)) ∧
                IntKind.wrap IntKind.u8 (shr' IntKind.u64 a1 (8 : Int)) < (256 : Int) then
            some
              (IntKind.wrap IntKind.i64
                  ((8 : Int) +
                    IntKind.wrap IntKind.i64
                      (List.getD
                        (List.map (fun b => (↑(BitVec.toNat b.1) : Int))
                          (List.append
                            (List.append
                              [(0 : UInt8), (1 : UInt8), (2 : UInt8), (2 : UInt8), (3 : UInt8), (3 : UInt8), (3 : UInt8),
                                (3 : UInt8), (4 : UInt8), (4 : UInt8), (4 : UInt8), (4 : UInt8), (4 : UInt8), (4 : UInt8),
                                (4 : UInt8), (4 : UInt8), (5 : UInt8), (5 : UInt8), (5 : UInt8), (5 : UInt8), (5 : UInt8),
                                (5 : UInt8), (5 : UInt8), (5 : UInt8), (5 : UInt8), (5 : UInt8), (5 : UInt8), (5 : UInt8),
                                (5 : UInt8), (5 : UInt8), (5 : UInt8), (5 : UInt8), (6 : UInt8), (6 : UInt8), (6 : UInt8),
                                (6 : UInt8), (6 : UInt8), (6 : UInt8), (6 : UInt8), (6 : UInt8), (6 : UInt8), (6 : UInt8),
                                (6 : UInt8), (6 : UInt8), (6 : UInt8), (6 : UInt8), (6 : UInt8), (6 : UInt8), (6 : UInt8),
                                (6 : UInt8), (6 : UInt8), (6 : UInt8), (6 : UInt8), (6 : UInt8), (6 : UInt8), (6 : UInt8),
                                (6 : UInt8), (6 : UInt8), (6 : UInt8), (6 : UInt8), (6 : UInt8), (6 : UInt8), (6 : UInt8),
                                (6 : UInt8)]
                              [(7 : UInt8), (7 : UInt8), (7 : UInt8), (7 : UInt8), (7 : UInt8), (7 : UInt8), (7 : UInt8),
                                (7 : UInt8), (7 : UInt8), (7 : UInt8), (7 : UInt8), (7 : UInt8), (7 : UInt8), (7 : UInt8),
                                (7 : UInt8), (7 : UInt8), (7 : UInt8), (7 : UInt8), (7 : UInt8), (7 : UInt8), (7 : UInt8),
                                (7 : UInt8), (7 : UInt8), (7 : UInt8), (7 : UInt8), (7 : UInt8), (7 : UInt8), (7 : UInt8),
                                (7 : UInt8), (7 : UInt8), (7 : UInt8), (7 : UInt8), (7 : UInt8), (7 : UInt8), (7 : UInt8),
                                (7 : UInt8), (7 : UInt8), (7 : UInt8), (7 : UInt8), (7 : UInt8), (7 : UInt8), (7 : UInt8),
                                (7 : UInt8), (7 : UInt8), (7 : UInt8), (7 : UInt8), (7 : UInt8), (7 : UInt8), (7 : UInt8),
                                (7 : UInt8), (7 : UInt8), (7 : UInt8), (7 : UInt8), (7 : UInt8), (7 : UInt8), (7 : UInt8),
                                (7 : UInt8), (7 : UInt8), (7 : UInt8), (7 : UInt8), (7 : UInt8), (7 : UInt8), (7 : UInt8),
                                (7 : UInt8)])
                            (List.append
                              [(8 : UInt8), (8 : UInt8), (8 : UInt8), (8 : UInt8), (8 : UInt8), (8 : UInt8), (8 : UInt8),
                                (8 : UInt8), (8 : UInt8), (8 : UInt8), (8 : UInt8), (8 : UInt8), (8 : UInt8), (8 : UInt8),
                                (8 : UInt8), (8 : UInt8), (8 : UInt8), (8 : UInt8), (8 : UInt8), (8 : UInt8), (8 : UInt8),
                                (8 : UInt8), (8 : UInt8), (8 : UInt8), (8 : UInt8), (8 : UInt8), (8 : UInt8), (8 : UInt8),
                                (8 : UInt8), (8 : UInt8), (8 : UInt8), (8 : UInt8), (8 : UInt8), (8 : UInt8), (8 : UInt8),
                                (8 : UInt8), (8 : UInt8), (8 : UInt8), (8 : UInt8), (8 : UInt8), (8 : UInt8), (8 : UInt8),
                                (8 : UInt8), (8 : UInt8), (8 : UInt8), (8 : UInt8), (8 : UInt8), (8 : UInt8), (8 : UInt8),
                                (8 : UInt8), (8 : UInt8), (8 : UInt8), (8 : UInt8), (8 : UInt8), (8 : UInt8), (8 : UInt8),
                                (8 : UInt8), (8 : UInt8), (8 : UInt8), (8 : UInt8), (8 : UInt8), (8 : UInt8), (8 : UInt8),
                                (8 : UInt8)]
                              [(8 : UInt8), (8 : UInt8), (8 : UInt8), (8 : UInt8), (8 : UInt8), (8 : UInt8), (8 : UInt8),
                                (8 : UInt8), (8 : UInt8), (8 : UInt8), (8 : UInt8), (8 : UInt8), (8 : UInt8), (8 : UInt8),
                                (8 : UInt8), (8 : UInt8), (8 : UInt8), (8 : UInt8), (8 : UInt8), (8 : UInt8), (8 : UInt8),
                                (8 : UInt8), (8 : UInt8), (8 : UInt8), (8 : UInt8), (8 : UInt8), (8 : UInt8), (8 : UInt8),
                                (8 : UInt8), (8 : UInt8), (8 : UInt8), (8 : UInt8), (8 : UInt8), (8 : UInt8), (8 : UInt8),
                                (8 : UInt8), (8 : UInt8), (8 : UInt8), (8 : UInt8), (8 : UInt8), (8 : UInt8), (8 : UInt8),
                                (8 : UInt8), (8 : UInt8), (8 : UInt8), (8 : UInt8), (8 : UInt8), (8 : UInt8), (8 : UInt8),
                                (8 : UInt8), (8 : UInt8), (8 : UInt8), (8 : UInt8), (8 : UInt8), (8 : UInt8), (8 : UInt8),
                                (8 : UInt8), (8 : UInt8), (8 : UInt8), (8 : UInt8), (8 : UInt8), (8 : UInt8), (8 : UInt8),
                                (8 : UInt8)])))
                        (Int.toNat (IntKind.wrap IntKind.u8 (shr' IntKind.u64 a1 (8 : Int)))) (0 : Int))),
                ())
          else none
        else
          if (0 : Int) ≤ IntKind.wrap IntKind.u8 a1 ∧ IntKind.wrap IntKind.u8 a1 < (256 : Int) then
            some
              (IntKind.wrap IntKind.i64
                  ((0 : Int) +
                    IntKind.wrap IntKind.i64
                      (List.getD
                        (List.map (fun b => (↑(BitVec.toNat b.1) : Int))
                          (List.append
                            (List.append
                              [(0 : UInt8), (1 : UInt8), (2 : UInt8), (2 : UInt8), (3 : UInt8), (3 : UInt8), (3 : UInt8),
                                (3 : UInt8), (4 : UInt8), (4 : UInt8), (4 : UInt8), (4 : UInt8), (4 : UInt8), (4 : UInt8),
                                (4 : UInt8), (4 : UInt8), (5 : UInt8), (5 : UInt8), (5 : UInt8), (5 : UInt8), (5 : UInt8),
                                (5 : UInt8), (5 : UInt8), (5 : UInt8), (5 : UInt8), (5 : UInt8), (5 : UInt8), (5 : UInt8),
                                (5 : UInt8), (5 : UInt8), (5 : UInt8), (5 : UInt8), (6 : UInt8), (6 : UInt8), (6 : UInt8),
                                (6 : UInt8), (6 : UInt8), (6 : UInt8), (6 : UInt8), (6 : UInt8), (6 : UInt8), (6 : UInt8),
                                (6 : UInt8), (6 : UInt8), (6 : UInt8), (6 : UInt8), (6 : UInt8), (6 : UInt8), (6 : UInt8),
                                (6 : UInt8), (6 : UInt8), (6 : UInt8), (6 : UInt8), (6 : UInt8), (6 : UInt8), (6 : UInt8),
                                (6 : UInt8), (6 : UInt8), (6 : UInt8), (6 : UInt8), (6 : UInt8), (6 : UInt8), (6 : UInt8),
                                (6 : UInt8)]
                              [(7 : UInt8), (7 : UInt8), (7 : UInt8), (7 : UInt8), (7 : UInt8), (7 : UInt8), (7 : UInt8),
                                (7 : UInt8), (7 : UInt8), (7 : UInt8), (7 : UInt8), (7 : UInt8), (7 : UInt8), (7 : UInt8),
                                (7 : UInt8), (7 : UInt8), (7 : UInt8), (7 : UInt8), (7 : UInt8), (7 : UInt8), (7 : UInt8),
                                (7 : UInt8), (7 : UInt8), (7 : UInt8), (7 : UInt8), (7 : UInt8), (7 : UInt8), (7 : UInt8),
                                (7 : UInt8), (7 : UInt8), (7 : UInt8), (7 : UInt8), (7 : UInt8), (7 : UInt8), (7 : UInt8),
                                (7 : UInt8), (7 : UInt8), (7 : UInt8), (7 : UInt8), (7 : UInt8), (7 : UInt8), (7 : UInt8),
                                (7 : UInt8), (7 : UInt8), (7 : UInt8), (7 : UInt8), (7 : UInt8), (7 : UInt8), (7 : UInt8),
                                (7 : UInt8), (7 : UInt8), (7 : UInt8), (7 : UInt8), (7 : UInt8), (7 : UInt8), (7 : UInt8),
                                (7 : UInt8), (7 : UInt8), (7 : UInt8), (7 : UInt8), (7 : UInt8), (7 : UInt8), (7 : UInt8),
                                (7 : UInt8)])
                            (List.append
                              [(8 : UInt8), (8 : UInt8), (8 : UInt8), (8 : UInt8), (8 : UInt8), (8 : UInt8), (8 : UInt8),
                                (8 : UInt8), (8 : UInt8), (8 : UInt8), (8 : UInt8), (8 : UInt8), (8 : UInt8), (8 : UInt8),
                                (8 : UInt8), (8 : UInt8), (8 : UInt8), (8 : UInt8), (8 : UInt8), (8 : UInt8), (8 : UInt8),
                                (8 : UInt8), (8 : UInt8), (8 : UInt8), (8 : UInt8), (8 : UInt8), (8 : UInt8), (8 : UInt8),
                                (8 : UInt8), (8 : UInt8), (8 : UInt8), (8 : UInt8), (8 : UInt8), (8 : UInt8), (8 : UInt8),
                                (8 : UInt8), (8 : UInt8), (8 : UInt8), (8 : UInt8), (8 : UInt8), (8 : UInt8), (8 : UInt8),
                                (8 : UInt8), (8 : UInt8), (8 : UInt8), (8 : UInt8), (8 : UInt8), (8 : UInt8), (8 : UInt8),
                                (8 : UInt8), (8 : UInt8), (8 : UInt8), (8 : UInt8), (8 : UInt8), (8 : UInt8), (8 : UInt8),
                                (8 : UInt8), (8 : UInt8), (8 : UInt8), (8 : UInt8), (8 : UInt8), (8 : UInt8), (8 : UInt8),
                                (8 : UInt8)]
                              [(8 : UInt8), (8 : UInt8), (8 : UInt8), (8 : UInt8), (8 : UInt8), (8 : UInt8), (8 : UInt8),
                                (8 : UInt8), (8 : UInt8), (8 : UInt8), (8 : UInt8), (8 : UInt8), (8 : UInt8), (8 : UInt8),
                                (8 : UInt8), (8 : UInt8), (8 : UInt8), (8 : UInt8), (8 : UInt8), (8 : UInt8), (8 : UInt8),
                                (8 : UInt8), (8 : UInt8), (8 : UInt8), (8 : UInt8), (8 : UInt8), (8 : UInt8), (8 : UInt8),
                                (8 : UInt8), (8 : UInt8), (8 : UInt8), (8 : UInt8), (8 : UInt8), (8 : UInt8), (8 : UInt8),
                                (8 : UInt8), (8 : UInt8), (8 : UInt8), (8 : UInt8), (8 : UInt8), (8 : UInt8), (8 : UInt8),
                                (8 : UInt8), (8 : UInt8), (8 : UInt8), (8 : UInt8), (8 : UInt8), (8 : UInt8), (8 : UInt8),
                                (8 : UInt8), (8 : UInt8), (8 : UInt8), (8 : UInt8), (8 : UInt8), (8 : UInt8), (8 : UInt8),
                                (8 : UInt8), (8 : UInt8), (8 : UInt8), (8 : UInt8), (8 : UInt8), (8 : UInt8), (8 : UInt8),
                                (8 : UInt8)])))
                        (Int.toNat (IntKind.wrap IntKind.u8 a1)) (0 : Int))),
                ())
          else none
noncomputable def T88 : List (Entry Try.prog) := []
noncomputable def cuts88 : List (Cut (AT alts88)) := []
theorem e88 : ∀ x y, F88 x y = codeJ Try.prog (tableJ (T88)) (Lof 0 0 (cuts88)) body88 (st0 pin88 os88 x y) (endJ Try.prog 0 [.tmp 2] alts88) := by
  rintro ⟨a1, ⟨⟩⟩ ⟨⟩; kernel_rfl
theorem k88 : FnOK Try.prog 88 pin88 os88 alts88 (F88) :=
  fn_ok (fn := Try.f88) (body := body88) (cuts := cuts88) (k := 0) (C := tableJ (T88)) (C' := tableJ (T88)) (table_ok _) (table_nat _) (table_ok _) mixed (by kernel_rfl) (by kernel_rfl) (by decide) (by kernel_rfl) (fun x => Nat.le_of_ble_eq_true (by kernel_rfl))
    (fun c h => by cases h) (fun c h => by cases h) (e88)
noncomputable def E88 : Entry Try.prog := ⟨88, pin88, os88, alts88, F88, k88, rfl⟩
/-! 87 Degree -/
abbrev pin87 : VPL := (.cons (.int .u64) .nil)
abbrev os87 : List OP := []
abbrev alts87 : List Alt := [(.int .i64, [])]
noncomputable def body87 : Code := match Try.f87.body with
  | some c => c
  | none => .skip
def F87 : pin87.T → OPL.T os87 → Option (AT alts87)
  | (a1, ()), () =>
    Option.bind (F88 (a1, ()) ()) fun val => some (IntKind.wrap IntKind.i64 (val.1 - (1 : Int)), ())
noncomputable def T87 : List (Entry Try.prog) := [E88]
noncomputable def cuts87 : List (Cut (AT alts87)) := []
theorem e87 : ∀ x y, F87 x y = codeJ Try.prog (tableJ (T87)) (Lof 0 0 (cuts87)) body87 (st0 pin87 os87 x y) (endJ Try.prog 0 [.tmp 2] alts87) := by
  rintro ⟨a1, ⟨⟩⟩ ⟨⟩; kernel_rfl
theorem k87 : FnOK Try.prog 87 pin87 os87 alts87 (F87) :=
  fn_ok (fn := Try.f87) (body := body87) (cuts := cuts87) (k := 0) (C := tableJ (T87)) (C' := tableJ (T87)) (table_ok _) (table_nat _) (table_ok _) mixed (by kernel_rfl) (by kernel_rfl) (by decide) (by kernel_rfl) (fun x => Nat.le_of_ble_eq_true (by kernel_rfl))
    (fun c h => by cases h) (fun c h => by cases h) (e87)
noncomputable def E87 : Entry Try.prog := ⟨87, pin87, os87, alts87, F87, k87, rfl⟩
/-! 84 long -/
abbrev pin84 : VPL := (.cons (.int .u64) (.cons (.int .u64) (.cons (.int .u64) .nil)))
abbrev os84 : List OP := []
abbrev alts84 : List Alt := [(.tup (.cons (.int .u64) (.cons (.int .u64) .nil)), [])]
abbrev ps84_3 : VPL := (.cons (.int .u64) (.cons (.int .u64) (.cons (.int .u64) (.cons (.int .u64) (.cons (.int .i64) (.cons (.int .i64) .nil))))))
abbrev os84_3 : List OP := []
abbrev ps84_13 : VPL := (.cons (.int .u64) (.cons (.int .u64) (.cons (.int .u64) (.cons (.int .i64) (.cons (.int .i64) .nil)))))
abbrev os84_13 : List OP := []
noncomputable def body84 : Code := match Try.f84.body with
  | some c => c
  | none => .skip
def L84_13 : Nat → ps84_13.T → OPL.T os84_13 → Option (AT alts84)
  | 0, _, _ => none
  | k + 1, (a1, (a2, (a3, (a4, (a5, ()))))), () =>
    if decide (a4 ≤ a5) = true then
      if a5 < (0 : Int) then none
      else
        if
            (!decide
                  (IntKind.wrap IntKind.u64
                      (↑(BitVec.toNat
                            (BitVec.ofInt (64 : Nat) (shr' IntKind.u64 a1 a5) &&& BitVec.ofInt (64 : Nat) (1 : Int))) :
                        Int) =
                    (0 : Int))) =
              true then
          if IntKind.wrap IntKind.i64 (a5 - a4) < (0 : Int) then none
          else
            if IntKind.wrap IntKind.i64 (a5 - a4) < (0 : Int) then none
            else
              L84_13 k
                (IntKind.wrap IntKind.u64
                    (↑(BitVec.toNat
                          (BitVec.ofInt (64 : Nat) a1 ^^^
                            BitVec.ofInt (64 : Nat) (shl' IntKind.u64 a2 (IntKind.wrap IntKind.i64 (a5 - a4))))) :
                      Int),
                  a2,
                  IntKind.wrap IntKind.u64
                    (↑(BitVec.toNat
                          (BitVec.ofInt (64 : Nat) a3 |||
                            BitVec.ofInt (64 : Nat) (shl' IntKind.u64 (1 : Int) (IntKind.wrap IntKind.i64 (a5 - a4))))) :
                      Int),
                  a4, IntKind.wrap IntKind.i64 (a5 - (1 : Int)), ())
                ()
        else L84_13 k (a1, a2, a3, a4, IntKind.wrap IntKind.i64 (a5 - (1 : Int)), ()) ()
    else some ((a3, a1, ()), ())
def L84_3 : Nat → ps84_3.T → OPL.T os84_3 → Option (AT alts84)
  | 0, _, _ => none
  | k + 1, (a1, (a2, (a3, (a4, (a5, (a6, ())))))), () =>
    if decide ((0 : Int) ≤ a6) = true then
      if a6 < (0 : Int) then none
      else
        if
            decide
                (IntKind.wrap IntKind.u64
                    (↑(BitVec.toNat
                          (BitVec.ofInt (64 : Nat) (shr' IntKind.u64 a1 a6) &&& BitVec.ofInt (64 : Nat) (1 : Int))) :
                      Int) =
                  (0 : Int)) =
              true then
          L84_3 k (a1, a2, a3, a4, a5, IntKind.wrap IntKind.i64 (a6 - (1 : Int)), ()) ()
        else
          if decide ((64 : Int) ≤ IntKind.wrap IntKind.i64 (IntKind.wrap IntKind.i64 ((64 : Int) + a6) - a5)) = true then
            if
                IntKind.wrap IntKind.i64
                    (IntKind.wrap IntKind.i64 (IntKind.wrap IntKind.i64 ((64 : Int) + a6) - a5) - (64 : Int)) <
                  (0 : Int) then
              none
            else
              L84_3 k
                (IntKind.wrap IntKind.u64
                    (↑(BitVec.toNat
                          (BitVec.ofInt (64 : Nat) a1 ^^^
                            BitVec.ofInt (64 : Nat)
                              (shl' IntKind.u64 a3
                                (IntKind.wrap IntKind.i64
                                  (IntKind.wrap IntKind.i64 (IntKind.wrap IntKind.i64 ((64 : Int) + a6) - a5) -
                                    (64 : Int)))))) :
                      Int),
                  a2, a3, a4, a5, IntKind.wrap IntKind.i64 (a6 - (1 : Int)), ())
                ()
          else
            if IntKind.wrap IntKind.i64 (IntKind.wrap IntKind.i64 ((64 : Int) + a6) - a5) < (0 : Int) then none
            else
              if
                  IntKind.wrap IntKind.i64
                      ((64 : Int) - IntKind.wrap IntKind.i64 (IntKind.wrap IntKind.i64 ((64 : Int) + a6) - a5)) <
                    (0 : Int) then
                none
              else
                if IntKind.wrap IntKind.i64 (IntKind.wrap IntKind.i64 ((64 : Int) + a6) - a5) < (0 : Int) then none
                else
                  L84_3 k
                    (IntKind.wrap IntKind.u64
                        (↑(BitVec.toNat
                              (BitVec.ofInt (64 : Nat) a1 ^^^
                                BitVec.ofInt (64 : Nat)
                                  (shr' IntKind.u64 a3
                                    (IntKind.wrap IntKind.i64
                                      ((64 : Int) -
                                        IntKind.wrap IntKind.i64 (IntKind.wrap IntKind.i64 ((64 : Int) + a6) - a5)))))) :
                          Int),
                      IntKind.wrap IntKind.u64
                        (↑(BitVec.toNat
                              (BitVec.ofInt (64 : Nat) a2 ^^^
                                BitVec.ofInt (64 : Nat)
                                  (shl' IntKind.u64 a3
                                    (IntKind.wrap IntKind.i64 (IntKind.wrap IntKind.i64 ((64 : Int) + a6) - a5))))) :
                          Int),
                      a3,
                      IntKind.wrap IntKind.u64
                        (↑(BitVec.toNat
                              (BitVec.ofInt (64 : Nat) a4 |||
                                BitVec.ofInt (64 : Nat)
                                  (shl' IntKind.u64 (1 : Int)
                                    (IntKind.wrap IntKind.i64 (IntKind.wrap IntKind.i64 ((64 : Int) + a6) - a5))))) :
                          Int),
                      a5, IntKind.wrap IntKind.i64 (a6 - (1 : Int)), ())
                    ()
    else Option.bind (F87 (a2, ()) ()) fun val => L84_13 k (a2, a3, a4, a5, val.1, ()) ()
def F84 (k : Nat) : pin84.T → OPL.T os84 → Option (AT alts84)
  | (a1, (a2, (a3, ()))), () =>
    Option.bind (F87 (a3, ()) ()) fun val =>
      Option.bind (F87 (a1, ()) ()) fun val_1 => L84_3 k (a1, a2, a3, (0 : Int), val.1, val_1.1, ()) ()
noncomputable def T84 : List (Entry Try.prog) := [E87]
noncomputable def cuts84 : List (Cut (AT alts84)) := [⟨3, [0, 1, 2, 6, 8, 9], ps84_3, os84_3, L84_3⟩, ⟨13, [1, 2, 6, 8, 11], ps84_13, os84_13, L84_13⟩]
theorem s84_3 : ∀ k x y, L84_3 (k + 1) x y = roundJ Try.prog (tableJ (T84)) (Lof 0 k (cuts84)) 3 body84 (endJ Try.prog 0 [.tmp 6, .tmp 7] alts84) (stAt [0, 1, 2, 6, 8, 9] ps84_3 os84_3 x y) := by
  rintro k ⟨a1, ⟨a2, ⟨a3, ⟨a4, ⟨a5, ⟨a6, ⟨⟩⟩⟩⟩⟩⟩⟩ ⟨⟩; kernel_rfl
theorem s84_13 : ∀ k x y, L84_13 (k + 1) x y = roundJ Try.prog (tableJ (T84)) (Lof 0 k (cuts84)) 13 body84 (endJ Try.prog 0 [.tmp 6, .tmp 7] alts84) (stAt [1, 2, 6, 8, 11] ps84_13 os84_13 x y) := by
  rintro k ⟨a1, ⟨a2, ⟨a3, ⟨a4, ⟨a5, ⟨⟩⟩⟩⟩⟩⟩ ⟨⟩; kernel_rfl
theorem e84 (k : Nat) : ∀ x y, F84 k x y = codeJ Try.prog (tableJ (T84)) (Lof 0 k (cuts84)) body84 (st0 pin84 os84 x y) (endJ Try.prog 0 [.tmp 6, .tmp 7] alts84) := by
  rintro ⟨a1, ⟨a2, ⟨a3, ⟨⟩⟩⟩⟩ ⟨⟩; kernel_rfl
theorem k84 (k : Nat) : FnOK Try.prog 84 pin84 os84 alts84 (F84 k) :=
  fn_ok (fn := Try.f84) (body := body84) (cuts := cuts84) (k := k) (C := tableJ (T84)) (C' := tableJ (T84)) (table_ok _) (table_nat _) (table_ok _) mixed (by kernel_rfl) (by kernel_rfl) (by decide) (by kernel_rfl) (fun x => Nat.le_of_ble_eq_true (by kernel_rfl))
    (List.forall_mem_cons.2 ⟨fun x y => rfl, List.forall_mem_cons.2 ⟨fun x y => rfl, fun c h => by cases h⟩⟩) (List.forall_mem_cons.2 ⟨s84_3, List.forall_mem_cons.2 ⟨s84_13, fun c h => by cases h⟩⟩) (e84 k)
noncomputable def E84 (k : Nat) : Entry Try.prog := ⟨84, pin84, os84, alts84, F84 k, k84 k, rfl⟩
/-! 80 rest -/
abbrev pin80 : VPL := (.cons (.int .u64) (.cons (.int .u64) .nil))
abbrev os80 : List OP := []
abbrev alts80 : List Alt := [(.int .u64, [])]
noncomputable def body80 : Code := match Try.f80.body with
  | some c => c
  | none => .skip
def F80 (k : Nat) : pin80.T → OPL.T os80 → Option (AT alts80)
  | (a1, (a2, ())), () =>
    Option.bind ((F84 k) ((0 : Int), a1, a2, ()) ()) fun val => some ((Prod.snd (Prod.fst val)).1, ())
noncomputable def T80 (K : Nat) : List (Entry Try.prog) := [E84 K]
noncomputable def cuts80 (K : Nat) : List (Cut (AT alts80)) := []
theorem e80 (k : Nat) : ∀ x y, F80 k x y = codeJ Try.prog (tableJ (T80 k)) (Lof 0 k (cuts80 k)) body80 (st0 pin80 os80 x y) (endJ Try.prog 0 [.tmp 4] alts80) := by
  rintro ⟨a1, ⟨a2, ⟨⟩⟩⟩ ⟨⟩; kernel_rfl
theorem k80 (k : Nat) : FnOK Try.prog 80 pin80 os80 alts80 (F80 k) :=
  fn_ok (fn := Try.f80) (body := body80) (cuts := cuts80 k) (k := k) (C := tableJ (T80 k)) (C' := tableJ (T80 k)) (table_ok _) (table_nat _) (table_ok _) mixed (by kernel_rfl) (by kernel_rfl) (by decide) (by kernel_rfl) (fun x => Nat.le_of_ble_eq_true (by kernel_rfl))
    (fun c h => by cases h) (fun c h => by cases h) (e80 k)
noncomputable def E80 (k : Nat) : Entry Try.prog := ⟨80, pin80, os80, alts80, F80 k, k80 k, rfl⟩
/-! 73 Gcd -/
abbrev pin73 : VPL := (.cons (.int .u64) (.cons (.int .u64) .nil))
abbrev os73 : List OP := []
abbrev alts73 : List Alt := [(.int .u64, [])]
abbrev ps73_1 : VPL := (.cons (.int .u64) (.cons (.int .u64) .nil))
abbrev os73_1 : List OP := []
noncomputable def body73 : Code := match Try.f73.body with
  | some c => c
  | none => .skip
def L73_1 (K : Nat) : Nat → ps73_1.T → OPL.T os73_1 → Option (AT alts73)
  | 0, _, _ => none
  | k + 1, (a1, (a2, ())), () =>
    if (!decide (a2 = (0 : Int))) = true then Option.bind ((F80 K) (a1, a2, ()) ()) fun val => (L73_1 K) k (a2, val.1, ()) ()
    else some (a1, ())
def F73 (k : Nat) : pin73.T → OPL.T os73 → Option (AT alts73)
  | (a1, (a2, ())), () =>
    (L73_1 k) k (a1, a2, ()) ()
noncomputable def T73 (K : Nat) : List (Entry Try.prog) := [E80 K]
noncomputable def cuts73 (K : Nat) : List (Cut (AT alts73)) := [⟨1, [0, 1], ps73_1, os73_1, L73_1 K⟩]
theorem s73_1 (K : Nat) : ∀ k x y, L73_1 K (k + 1) x y = roundJ Try.prog (tableJ (T73 K)) (Lof 0 k (cuts73 K)) 1 body73 (endJ Try.prog 0 [.tmp 4] alts73) (stAt [0, 1] ps73_1 os73_1 x y) := by
  rintro k ⟨a1, ⟨a2, ⟨⟩⟩⟩ ⟨⟩; kernel_rfl
theorem e73 (k : Nat) : ∀ x y, F73 k x y = codeJ Try.prog (tableJ (T73 k)) (Lof 0 k (cuts73 k)) body73 (st0 pin73 os73 x y) (endJ Try.prog 0 [.tmp 4] alts73) := by
  rintro ⟨a1, ⟨a2, ⟨⟩⟩⟩ ⟨⟩; kernel_rfl
theorem k73 (k : Nat) : FnOK Try.prog 73 pin73 os73 alts73 (F73 k) :=
  fn_ok (fn := Try.f73) (body := body73) (cuts := cuts73 k) (k := k) (C := tableJ (T73 k)) (C' := tableJ (T73 k)) (table_ok _) (table_nat _) (table_ok _) mixed (by kernel_rfl) (by kernel_rfl) (by decide) (by kernel_rfl) (fun x => Nat.le_of_ble_eq_true (by kernel_rfl))
    (List.forall_mem_cons.2 ⟨fun x y => rfl, fun c h => by cases h⟩) (List.forall_mem_cons.2 ⟨s73_1 k, fun c h => by cases h⟩) (e73 k)
noncomputable def E73 (k : Nat) : Entry Try.prog := ⟨73, pin73, os73, alts73, F73 k, k73 k, rfl⟩
/-! 86 R.Bit -/
abbrev pin86 : VPL := (.cons (.int .u64) (.cons (.int .i64) .nil))
abbrev os86 : List OP := []
abbrev alts86 : List Alt := [(.int .u64, [])]
noncomputable def body86 : Code := match Try.f86.body with
  | some c => c
  | none => .skip
def F86 : pin86.T → OPL.T os86 → Option (AT alts86)
  | (a1, (a2, ())), () =>
    if IntKind.wrap IntKind.u64 a2 < (0 : Int) then none
    else
      some
        (IntKind.wrap IntKind.u64
            (↑(BitVec.toNat
                  (BitVec.ofInt (64 : Nat) (shr' IntKind.u64 a1 (IntKind.wrap IntKind.u64 a2)) &&&
                    BitVec.ofInt (64 : Nat) (1 : Int))) :
              Int),
          ())
noncomputable def T86 : List (Entry Try.prog) := []
noncomputable def cuts86 : List (Cut (AT alts86)) := []
theorem e86 : ∀ x y, F86 x y = codeJ Try.prog (tableJ (T86)) (Lof 0 0 (cuts86)) body86 (st0 pin86 os86 x y) (endJ Try.prog 0 [.tmp 4] alts86) := by
  rintro ⟨a1, ⟨a2, ⟨⟩⟩⟩ ⟨⟩; kernel_rfl
theorem k86 : FnOK Try.prog 86 pin86 os86 alts86 (F86) :=
  fn_ok (fn := Try.f86) (body := body86) (cuts := cuts86) (k := 0) (C := tableJ (T86)) (C' := tableJ (T86)) (table_ok _) (table_nat _) (table_ok _) mixed (by kernel_rfl) (by kernel_rfl) (by decide) (by kernel_rfl) (fun x => Nat.le_of_ble_eq_true (by kernel_rfl))
    (fun c h => by cases h) (fun c h => by cases h) (e86)
noncomputable def E86 : Entry Try.prog := ⟨86, pin86, os86, alts86, F86, k86, rfl⟩
/-! 85 R.Degree -/
abbrev pin85 : VPL := (.cons (.int .u64) .nil)
abbrev os85 : List OP := []
abbrev alts85 : List Alt := [(.int .i64, [])]
abbrev ps85_2 : VPL := (.cons (.int .u64) (.cons (.int .i64) .nil))
abbrev os85_2 : List OP := []
noncomputable def body85 : Code := match Try.f85.body with
  | some c => c
  | none => .skip
def L85_2 : Nat → ps85_2.T → OPL.T os85_2 → Option (AT alts85)
  | 0, _, _ => none
  | k + 1, (a1, (a2, ())), () =>
    if (!decide (a1 = (0 : Int))) = true then
      L85_2 k (shr' IntKind.u64 a1 (1 : Int), IntKind.wrap IntKind.i64 (a2 + (1 : Int)), ()) ()
    else some (a2, ())
def F85 (k : Nat) : pin85.T → OPL.T os85 → Option (AT alts85)
  | (a1, ()), () =>
    L85_2 k (a1, (-1 : Int), ()) ()
noncomputable def T85 : List (Entry Try.prog) := []
noncomputable def cuts85 : List (Cut (AT alts85)) := [⟨2, [0, 3], ps85_2, os85_2, L85_2⟩]
theorem s85_2 : ∀ k x y, L85_2 (k + 1) x y = roundJ Try.prog (tableJ (T85)) (Lof 0 k (cuts85)) 2 body85 (endJ Try.prog 0 [.tmp 2] alts85) (stAt [0, 3] ps85_2 os85_2 x y) := by
  rintro k ⟨a1, ⟨a2, ⟨⟩⟩⟩ ⟨⟩; kernel_rfl
theorem e85 (k : Nat) : ∀ x y, F85 k x y = codeJ Try.prog (tableJ (T85)) (Lof 0 k (cuts85)) body85 (st0 pin85 os85 x y) (endJ Try.prog 0 [.tmp 2] alts85) := by
  rintro ⟨a1, ⟨⟩⟩ ⟨⟩; kernel_rfl
theorem k85 (k : Nat) : FnOK Try.prog 85 pin85 os85 alts85 (F85 k) :=
  fn_ok (fn := Try.f85) (body := body85) (cuts := cuts85) (k := k) (C := tableJ (T85)) (C' := tableJ (T85)) (table_ok _) (table_nat _) (table_ok _) mixed (by kernel_rfl) (by kernel_rfl) (by decide) (by kernel_rfl) (fun x => Nat.le_of_ble_eq_true (by kernel_rfl))
    (List.forall_mem_cons.2 ⟨fun x y => rfl, fun c h => by cases h⟩) (List.forall_mem_cons.2 ⟨s85_2, fun c h => by cases h⟩) (e85 k)
noncomputable def E85 (k : Nat) : Entry Try.prog := ⟨85, pin85, os85, alts85, F85 k, k85 k, rfl⟩
/-! 81 R.Whole -/
abbrev pin81 : VPL := (.cons (.int .u64) (.cons (.int .u64) (.cons (.int .u64) .nil)))
abbrev os81 : List OP := []
abbrev alts81 : List Alt := [(.tup (.cons (.int .u64) (.cons (.int .u64) .nil)), [])]
abbrev ps81_5 : VPL := (.cons (.int .u64) (.cons (.int .u64) (.cons (.int .u64) (.cons (.int .u64) (.cons (.int .u64) (.cons (.int .i64) (.cons (.int .i64) .nil)))))))
abbrev os81_5 : List OP := []
noncomputable def body81 : Code := match Try.f81.body with
  | some c => c
  | none => .skip
def L81_5 (K : Nat) : Nat → ps81_5.T → OPL.T os81_5 → Option (AT alts81)
  | 0, _, _ => none
  | k + 1, (a1, (a2, (a3, (a4, (a5, (a6, (a7, ()))))))), () =>
    if decide ((0 : Int) ≤ a7) = true then
      if decide ((64 : Int) ≤ a7) = true then
        Option.bind (F86 (a1, IntKind.wrap IntKind.i64 (a7 - (64 : Int)), ()) ()) fun val =>
          if decide (a6 = (0 : Int)) = true then
            (L81_5 K) k
              (a1, a2, a3,
                IntKind.wrap IntKind.u64
                  (↑(BitVec.toNat
                        (BitVec.ofInt (64 : Nat) (shl' IntKind.u64 a4 (1 : Int)) ||| BitVec.ofInt (64 : Nat) val.1)) :
                    Int),
                a5, a6, IntKind.wrap IntKind.i64 (a7 - (1 : Int)), ())
              ()
          else
            Option.bind
              (F86
                (IntKind.wrap IntKind.u64
                    (↑(BitVec.toNat
                          (BitVec.ofInt (64 : Nat) (shl' IntKind.u64 a5 (1 : Int)) ||| BitVec.ofInt (64 : Nat) val.1)) :
                      Int),
                  a6, ())
                ())
              fun val_1 =>
              if decide (val_1.1 = (1 : Int)) = true then
                (L81_5 K) k
                  (a1, a2, a3,
                    IntKind.wrap IntKind.u64
                      (↑(BitVec.toNat
                            (BitVec.ofInt (64 : Nat) (shl' IntKind.u64 a4 (1 : Int)) |||
                              BitVec.ofInt (64 : Nat) (1 : Int))) :
                        Int),
                    IntKind.wrap IntKind.u64
                      (↑(BitVec.toNat
                            (BitVec.ofInt (64 : Nat)
                                (IntKind.wrap IntKind.u64
                                  (↑(BitVec.toNat
                                        (BitVec.ofInt (64 : Nat) (shl' IntKind.u64 a5 (1 : Int)) |||
                                          BitVec.ofInt (64 : Nat) val.1)) :
                                    Int)) ^^^
                              BitVec.ofInt (64 : Nat) a3)) :
                        Int),
                    a6, IntKind.wrap IntKind.i64 (a7 - (1 : Int)), ())
                  ()
              else
                (L81_5 K) k
                  (a1, a2, a3, shl' IntKind.u64 a4 (1 : Int),
                    IntKind.wrap IntKind.u64
                      (↑(BitVec.toNat
                            (BitVec.ofInt (64 : Nat) (shl' IntKind.u64 a5 (1 : Int)) ||| BitVec.ofInt (64 : Nat) val.1)) :
                        Int),
                    a6, IntKind.wrap IntKind.i64 (a7 - (1 : Int)), ())
                  ()
      else
        Option.bind (F86 (a2, a7, ()) ()) fun val =>
          if decide (a6 = (0 : Int)) = true then
            (L81_5 K) k
              (a1, a2, a3,
                IntKind.wrap IntKind.u64
                  (↑(BitVec.toNat
                        (BitVec.ofInt (64 : Nat) (shl' IntKind.u64 a4 (1 : Int)) ||| BitVec.ofInt (64 : Nat) val.1)) :
                    Int),
                a5, a6, IntKind.wrap IntKind.i64 (a7 - (1 : Int)), ())
              ()
          else
            Option.bind
              (F86
                (IntKind.wrap IntKind.u64
                    (↑(BitVec.toNat
                          (BitVec.ofInt (64 : Nat) (shl' IntKind.u64 a5 (1 : Int)) ||| BitVec.ofInt (64 : Nat) val.1)) :
                      Int),
                  a6, ())
                ())
              fun val_1 =>
              if decide (val_1.1 = (1 : Int)) = true then
                (L81_5 K) k
                  (a1, a2, a3,
                    IntKind.wrap IntKind.u64
                      (↑(BitVec.toNat
                            (BitVec.ofInt (64 : Nat) (shl' IntKind.u64 a4 (1 : Int)) |||
                              BitVec.ofInt (64 : Nat) (1 : Int))) :
                        Int),
                    IntKind.wrap IntKind.u64
                      (↑(BitVec.toNat
                            (BitVec.ofInt (64 : Nat)
                                (IntKind.wrap IntKind.u64
                                  (↑(BitVec.toNat
                                        (BitVec.ofInt (64 : Nat) (shl' IntKind.u64 a5 (1 : Int)) |||
                                          BitVec.ofInt (64 : Nat) val.1)) :
                                    Int)) ^^^
                              BitVec.ofInt (64 : Nat) a3)) :
                        Int),
                    a6, IntKind.wrap IntKind.i64 (a7 - (1 : Int)), ())
                  ()
              else
                (L81_5 K) k
                  (a1, a2, a3, shl' IntKind.u64 a4 (1 : Int),
                    IntKind.wrap IntKind.u64
                      (↑(BitVec.toNat
                            (BitVec.ofInt (64 : Nat) (shl' IntKind.u64 a5 (1 : Int)) ||| BitVec.ofInt (64 : Nat) val.1)) :
                        Int),
                    a6, IntKind.wrap IntKind.i64 (a7 - (1 : Int)), ())
                  ()
    else some ((a4, a5, ()), ())
def F81 (k : Nat) : pin81.T → OPL.T os81 → Option (AT alts81)
  | (a1, (a2, (a3, ()))), () =>
    Option.bind ((F85 k) (a3, ()) ()) fun val => (L81_5 k) k (a1, a2, a3, (0 : Int), (0 : Int), val.1, (127 : Int), ()) ()
noncomputable def T81 (K : Nat) : List (Entry Try.prog) := [E85 K, E86]
noncomputable def cuts81 (K : Nat) : List (Cut (AT alts81)) := [⟨5, [0, 1, 2, 8, 9, 10, 11], ps81_5, os81_5, L81_5 K⟩]
theorem s81_5 (K : Nat) : ∀ k x y, L81_5 K (k + 1) x y = roundJ Try.prog (tableJ (T81 K)) (Lof 0 k (cuts81 K)) 5 body81 (endJ Try.prog 0 [.tmp 6, .tmp 7] alts81) (stAt [0, 1, 2, 8, 9, 10, 11] ps81_5 os81_5 x y) := by
  rintro k ⟨a1, ⟨a2, ⟨a3, ⟨a4, ⟨a5, ⟨a6, ⟨a7, ⟨⟩⟩⟩⟩⟩⟩⟩⟩ ⟨⟩; kernel_rfl
theorem e81 (k : Nat) : ∀ x y, F81 k x y = codeJ Try.prog (tableJ (T81 k)) (Lof 0 k (cuts81 k)) body81 (st0 pin81 os81 x y) (endJ Try.prog 0 [.tmp 6, .tmp 7] alts81) := by
  rintro ⟨a1, ⟨a2, ⟨a3, ⟨⟩⟩⟩⟩ ⟨⟩; kernel_rfl
theorem k81 (k : Nat) : FnOK Try.prog 81 pin81 os81 alts81 (F81 k) :=
  fn_ok (fn := Try.f81) (body := body81) (cuts := cuts81 k) (k := k) (C := tableJ (T81 k)) (C' := tableJ (T81 k)) (table_ok _) (table_nat _) (table_ok _) mixed (by kernel_rfl) (by kernel_rfl) (by decide) (by kernel_rfl) (fun x => Nat.le_of_ble_eq_true (by kernel_rfl))
    (List.forall_mem_cons.2 ⟨fun x y => rfl, fun c h => by cases h⟩) (List.forall_mem_cons.2 ⟨s81_5 k, fun c h => by cases h⟩) (e81 k)
noncomputable def E81 (k : Nat) : Entry Try.prog := ⟨81, pin81, os81, alts81, F81 k, k81 k, rfl⟩
/-! 75 R.Gcd -/
abbrev pin75 : VPL := (.cons (.int .u64) (.cons (.int .u64) .nil))
abbrev os75 : List OP := []
abbrev alts75 : List Alt := [(.int .u64, [])]
abbrev ps75_1 : VPL := (.cons (.int .u64) (.cons (.int .u64) .nil))
abbrev os75_1 : List OP := []
noncomputable def body75 : Code := match Try.f75.body with
  | some c => c
  | none => .skip
def L75_1 (K : Nat) : Nat → ps75_1.T → OPL.T os75_1 → Option (AT alts75)
  | 0, _, _ => none
  | k + 1, (a1, (a2, ())), () =>
    if (!decide (a2 = (0 : Int))) = true then
      Option.bind ((F81 K) ((0 : Int), a1, a2, ()) ()) fun val => (L75_1 K) k (a2, (Prod.snd (Prod.fst val)).1, ()) ()
    else some (a1, ())
def F75 (k : Nat) : pin75.T → OPL.T os75 → Option (AT alts75)
  | (a1, (a2, ())), () =>
    (L75_1 k) k (a1, a2, ()) ()
noncomputable def T75 (K : Nat) : List (Entry Try.prog) := [E81 K]
noncomputable def cuts75 (K : Nat) : List (Cut (AT alts75)) := [⟨1, [0, 1], ps75_1, os75_1, L75_1 K⟩]
theorem s75_1 (K : Nat) : ∀ k x y, L75_1 K (k + 1) x y = roundJ Try.prog (tableJ (T75 K)) (Lof 0 k (cuts75 K)) 1 body75 (endJ Try.prog 0 [.tmp 4] alts75) (stAt [0, 1] ps75_1 os75_1 x y) := by
  rintro k ⟨a1, ⟨a2, ⟨⟩⟩⟩ ⟨⟩; kernel_rfl
theorem e75 (k : Nat) : ∀ x y, F75 k x y = codeJ Try.prog (tableJ (T75 k)) (Lof 0 k (cuts75 k)) body75 (st0 pin75 os75 x y) (endJ Try.prog 0 [.tmp 4] alts75) := by
  rintro ⟨a1, ⟨a2, ⟨⟩⟩⟩ ⟨⟩; kernel_rfl
theorem k75 (k : Nat) : FnOK Try.prog 75 pin75 os75 alts75 (F75 k) :=
  fn_ok (fn := Try.f75) (body := body75) (cuts := cuts75 k) (k := k) (C := tableJ (T75 k)) (C' := tableJ (T75 k)) (table_ok _) (table_nat _) (table_ok _) mixed (by kernel_rfl) (by kernel_rfl) (by decide) (by kernel_rfl) (fun x => Nat.le_of_ble_eq_true (by kernel_rfl))
    (List.forall_mem_cons.2 ⟨fun x y => rfl, fun c h => by cases h⟩) (List.forall_mem_cons.2 ⟨s75_1 k, fun c h => by cases h⟩) (e75 k)
noncomputable def E75 (k : Nat) : Entry Try.prog := ⟨75, pin75, os75, alts75, F75 k, k75 k, rfl⟩
/-! 64 used -/
abbrev pin64 : VPL := (.cons (.agg (.cons (.int .i64) (.cons (.int .i64) (.cons (.arr .u32 3) .nil)))) .nil)
abbrev os64 : List OP := []
abbrev alts64 : List Alt := [(.sl 0, [.box (.cons (.int .i64) (.cons (.int .i64) (.cons (.arr .u32 3) .nil))) true])]
noncomputable def body64 : Code := match Try.f64.body with
  | some c => c
  | none => .skip
def F64 : pin64.T → OPL.T os64 → Option (AT alts64)
  | ((a1, (a2, (a3, ()))), ()), () =>
    if decide (a2 = (2 : Int)) = true then some (((2 : Nat), (2 : Nat)), (a1, a2, a3, ()), ())
    else some (((2 : Nat), (3 : Nat)), (a1, a2, a3, ()), ())
noncomputable def T64 : List (Entry Try.prog) := []
noncomputable def cuts64 : List (Cut (AT alts64)) := []
theorem e64 : ∀ x y, F64 x y = codeJ Try.prog (tableJ (T64)) (Lof 0 0 (cuts64)) body64 (st0 pin64 os64 x y) (endJ Try.prog 0 [.tmp 2] alts64) := by
  rintro ⟨⟨a1, ⟨a2, ⟨a3, ⟨⟩⟩⟩⟩, ⟨⟩⟩ ⟨⟩; kernel_rfl
theorem k64 : FnOK Try.prog 64 pin64 os64 alts64 (F64) :=
  fn_ok (fn := Try.f64) (body := body64) (cuts := cuts64) (k := 0) (C := tableJ (T64)) (C' := tableJ (T64)) (table_ok _) (table_nat _) (table_ok _) mixed (by kernel_rfl) (by kernel_rfl) (by decide) (by kernel_rfl) (fun x => Nat.le_of_ble_eq_true (by kernel_rfl))
    (fun c h => by cases h) (fun c h => by cases h) (e64)
noncomputable def E64 : Entry Try.prog := ⟨64, pin64, os64, alts64, F64, k64, rfl⟩
/-! 65 Common -/
abbrev pin65 : VPL := (.cons (.agg (.cons (.int .i64) (.cons (.int .i64) (.cons (.arr .u32 3) .nil)))) .nil)
abbrev os65 : List OP := []
abbrev alts65 : List Alt := [(.int .u64, [])]
abbrev ps65_3 : VPL := (.cons (.int .u64) (.cons (.sl 0) (.cons (.int .i64) (.cons (.int .i64) .nil))))
abbrev os65_3 : List OP := [.box (.cons (.int .i64) (.cons (.int .i64) (.cons (.arr .u32 3) .nil))) true]
noncomputable def body65 : Code := match Try.f65.body with
  | some c => c
  | none => .skip
def L65_3 (K : Nat) : Nat → ps65_3.T → OPL.T os65_3 → Option (AT alts65)
  | 0, _, _ => none
  | k + 1, (a1, ((a2, a3), (a4, (a5, ())))), ((a6, (a7, (a8, ()))), ()) =>
    if decide (a5 < a4) = true then
      if (0 : Int) ≤ a5 ∧ a5 < (↑a3 : Int) then
        if a2 = (0 : Nat) then none
        else
          if a2 = (1 : Nat) then none
          else
            if a2 = (2 : Nat) then
              if Int.toNat a5 < (3 : Nat) then
                Option.bind ((F73 K) (a1, IntKind.wrap IntKind.u64 (List.getD a8 (Int.toNat a5) (0 : Int)), ()) ()) fun val =>
                  (L65_3 K) k (val.1, (a2, a3), a4, IntKind.wrap IntKind.i64 (a5 + (1 : Int)), ()) ((a6, a7, a8, ()), ())
              else none
            else
              if a2 = (3 : Nat) then none
              else
                if a2 = (4 : Nat) then none
                else if a2 = (5 : Nat) then none else if a2 = (6 : Nat) then none else if a2 = (7 : Nat) then none else none
      else none
    else some (a1, ())
def F65 (k : Nat) : pin65.T → OPL.T os65 → Option (AT alts65)
  | ((a1, (a2, (a3, ()))), ()), () =>
    Option.bind (F64 ((a1, a2, a3, ()), ()) ()) fun val =>
      (L65_3 k) k ((0 : Int), ((Prod.fst val).1, (Prod.fst val).2), (↑(Prod.fst val).2 : Int), (0 : Int), ())
        (((Prod.fst (Prod.snd val)).1, (Prod.snd (Prod.fst (Prod.snd val))).1,
            (Prod.snd (Prod.snd (Prod.fst (Prod.snd val)))).1, ()),
          ())
noncomputable def T65 (K : Nat) : List (Entry Try.prog) := [E64, E73 K]
noncomputable def cuts65 (K : Nat) : List (Cut (AT alts65)) := [⟨3, [3, 7, 8, 9], ps65_3, os65_3, L65_3 K⟩]
theorem s65_3 (K : Nat) : ∀ k x y, L65_3 K (k + 1) x y = roundJ Try.prog (tableJ (T65 K)) (Lof 0 k (cuts65 K)) 3 body65 (endJ Try.prog 0 [.tmp 2] alts65) (stAt [3, 7, 8, 9] ps65_3 os65_3 x y) := by
  rintro k ⟨a1, ⟨⟨a2, a3⟩, ⟨a4, ⟨a5, ⟨⟩⟩⟩⟩⟩ ⟨⟨a6, ⟨a7, ⟨a8, ⟨⟩⟩⟩⟩, ⟨⟩⟩; kernel_rfl
theorem e65 (k : Nat) : ∀ x y, F65 k x y = codeJ Try.prog (tableJ (T65 k)) (Lof 0 k (cuts65 k)) body65 (st0 pin65 os65 x y) (endJ Try.prog 0 [.tmp 2] alts65) := by
  rintro ⟨⟨a1, ⟨a2, ⟨a3, ⟨⟩⟩⟩⟩, ⟨⟩⟩ ⟨⟩; kernel_rfl
theorem k65 (k : Nat) : FnOK Try.prog 65 pin65 os65 alts65 (F65 k) :=
  fn_ok (fn := Try.f65) (body := body65) (cuts := cuts65 k) (k := k) (C := tableJ (T65 k)) (C' := tableJ (T65 k)) (table_ok _) (table_nat _) (table_ok _) mixed (by kernel_rfl) (by kernel_rfl) (by decide) (by kernel_rfl) (fun x => Nat.le_of_ble_eq_true (by kernel_rfl))
    (List.forall_mem_cons.2 ⟨fun x y => rfl, fun c h => by cases h⟩) (List.forall_mem_cons.2 ⟨s65_3 k, fun c h => by cases h⟩) (e65 k)
noncomputable def E65 (k : Nat) : Entry Try.prog := ⟨65, pin65, os65, alts65, F65 k, k65 k, rfl⟩
/-! 74 R05.count -/
abbrev pin74 : VPL := (.cons (.agg (.cons (.int .i64) (.cons (.int .i64) (.cons (.arr .u32 3) .nil)))) .nil)
abbrev os74 : List OP := []
abbrev alts74 : List Alt := [(.int .i64, [])]
noncomputable def body74 : Code := match Try.f74.body with
  | some c => c
  | none => .skip
def F74 : pin74.T → OPL.T os74 → Option (AT alts74)
  | ((a1, (a2, (a3, ()))), ()), () =>
    if decide (a2 = (2 : Int)) = true then some ((2 : Int), ()) else some ((3 : Int), ())
noncomputable def T74 : List (Entry Try.prog) := []
noncomputable def cuts74 : List (Cut (AT alts74)) := []
theorem e74 : ∀ x y, F74 x y = codeJ Try.prog (tableJ (T74)) (Lof 0 0 (cuts74)) body74 (st0 pin74 os74 x y) (endJ Try.prog 0 [.tmp 2] alts74) := by
  rintro ⟨⟨a1, ⟨a2, ⟨a3, ⟨⟩⟩⟩⟩, ⟨⟩⟩ ⟨⟩; kernel_rfl
theorem k74 : FnOK Try.prog 74 pin74 os74 alts74 (F74) :=
  fn_ok (fn := Try.f74) (body := body74) (cuts := cuts74) (k := 0) (C := tableJ (T74)) (C' := tableJ (T74)) (table_ok _) (table_nat _) (table_ok _) mixed (by kernel_rfl) (by kernel_rfl) (by decide) (by kernel_rfl) (fun x => Nat.le_of_ble_eq_true (by kernel_rfl))
    (fun c h => by cases h) (fun c h => by cases h) (e74)
noncomputable def E74 : Entry Try.prog := ⟨74, pin74, os74, alts74, F74, k74, rfl⟩
/-! 66 R05.Common -/
abbrev pin66 : VPL := (.cons (.agg (.cons (.int .i64) (.cons (.int .i64) (.cons (.arr .u32 3) .nil)))) .nil)
abbrev os66 : List OP := []
abbrev alts66 : List Alt := [(.int .u64, [])]
abbrev ps66_3 : VPL := (.cons (.ptr 0 0) (.cons (.int .u64) (.cons (.int .i64) .nil)))
abbrev os66_3 : List OP := [.box (.cons (.int .i64) (.cons (.int .i64) (.cons (.arr .u32 3) .nil))) true]
noncomputable def body66 : Code := match Try.f66.body with
  | some c => c
  | none => .skip
def L66_3 (K : Nat) : Nat → ps66_3.T → OPL.T os66_3 → Option (AT alts66)
  | 0, _, _ => none
  | k + 1, ((), (a1, (a2, ()))), ((a3, (a4, (a5, ()))), ()) =>
    Option.bind (F74 ((a3, a4, a5, ()), ()) ()) fun val =>
      if decide (a2 < val.1) = true then
        if (0 : Int) ≤ a2 ∧ a2 < (3 : Int) then
          if Int.toNat a2 * (1 : Nat) < (3 : Nat) then
            Option.bind ((F75 K) (a1, IntKind.wrap IntKind.u64 (List.getD a5 (Int.toNat a2 * (1 : Nat)) (0 : Int)), ()) ())
              fun val => (L66_3 K) k ((), val.1, IntKind.wrap IntKind.i64 (a2 + (1 : Int)), ()) ((a3, a4, a5, ()), ())
          else none
        else none
      else some (a1, ())
def F66 (k : Nat) : pin66.T → OPL.T os66 → Option (AT alts66)
  | ((a1, (a2, (a3, ()))), ()), () =>
    (L66_3 k) k ((), (0 : Int), (0 : Int), ()) ((a1, a2, a3, ()), ())
noncomputable def T66 (K : Nat) : List (Entry Try.prog) := [E74, E75 K]
noncomputable def cuts66 (K : Nat) : List (Cut (AT alts66)) := [⟨3, [1, 3, 4], ps66_3, os66_3, L66_3 K⟩]
theorem s66_3 (K : Nat) : ∀ k x y, L66_3 K (k + 1) x y = roundJ Try.prog (tableJ (T66 K)) (Lof 0 k (cuts66 K)) 3 body66 (endJ Try.prog 0 [.tmp 2] alts66) (stAt [1, 3, 4] ps66_3 os66_3 x y) := by
  rintro k ⟨⟨⟩, ⟨a1, ⟨a2, ⟨⟩⟩⟩⟩ ⟨⟨a3, ⟨a4, ⟨a5, ⟨⟩⟩⟩⟩, ⟨⟩⟩; kernel_rfl
theorem e66 (k : Nat) : ∀ x y, F66 k x y = codeJ Try.prog (tableJ (T66 k)) (Lof 0 k (cuts66 k)) body66 (st0 pin66 os66 x y) (endJ Try.prog 0 [.tmp 2] alts66) := by
  rintro ⟨⟨a1, ⟨a2, ⟨a3, ⟨⟩⟩⟩⟩, ⟨⟩⟩ ⟨⟩; kernel_rfl
theorem k66 (k : Nat) : FnOK Try.prog 66 pin66 os66 alts66 (F66 k) :=
  fn_ok (fn := Try.f66) (body := body66) (cuts := cuts66 k) (k := k) (C := tableJ (T66 k)) (C' := tableJ (T66 k)) (table_ok _) (table_nat _) (table_ok _) mixed (by kernel_rfl) (by kernel_rfl) (by decide) (by kernel_rfl) (fun x => Nat.le_of_ble_eq_true (by kernel_rfl))
    (List.forall_mem_cons.2 ⟨fun x y => rfl, fun c h => by cases h⟩) (List.forall_mem_cons.2 ⟨s66_3 k, fun c h => by cases h⟩) (e66 k)
noncomputable def E66 (k : Nat) : Entry Try.prog := ⟨66, pin66, os66, alts66, F66 k, k66 k, rfl⟩
/-! 50 code.Check -/
abbrev pin50 : VPL := (.cons (.agg (.cons (.int .i64) (.cons (.int .i64) (.cons (.arr .u32 3) .nil)))) .nil)
abbrev os50 : List OP := []
abbrev alts50 : List Alt := [(.int .i64, [])]
abbrev ps50_5 : VPL := (.cons (.ptr 0 0) (.cons (.int .u32) (.cons (.sl 1) (.cons (.int .i64) (.cons (.int .i64) .nil)))))
abbrev os50_5 : List OP := [.box (.cons (.int .i64) (.cons (.int .i64) (.cons (.arr .u32 3) .nil))) true, .box (.cons (.int .i64) (.cons (.int .i64) (.cons (.arr .u32 3) .nil))) true]
noncomputable def body50 : Code := match Try.f50.body with
  | some c => c
  | none => .skip
def L50_5 (K : Nat) : Nat → ps50_5.T → OPL.T os50_5 → Option (AT alts50)
  | 0, _, _ => none
  | k + 1, ((), (a1, ((a2, a3), (a4, (a5, ()))))), ((a6, (a7, (a8, ()))), ((a9, (a10, (a11, ()))), ())) =>
    if decide (a5 < a4) = true then
      if (0 : Int) ≤ a5 ∧ a5 < (↑a3 : Int) then
        if a2 = (0 : Nat) then none
        else
          if a2 = (1 : Nat) then none
          else
            if a2 = (2 : Nat) then
              if Int.toNat a5 < (3 : Nat) then
                if decide (List.getD a11 (Int.toNat a5) (0 : Int) = (0 : Int)) = true then some ((50 : Int), ())
                else
                  if a6 < (0 : Int) then none
                  else
                    if
                        (!decide
                              (shr' IntKind.u64 (IntKind.wrap IntKind.u64 (List.getD a11 (Int.toNat a5) (0 : Int))) a6 =
                                (0 : Int))) =
                          true then
                      some ((50 : Int), ())
                    else
                      (L50_5 K) k
                        ((),
                          IntKind.wrap IntKind.u32
                            (↑(BitVec.toNat
                                  (BitVec.ofInt (32 : Nat) a1 |||
                                    BitVec.ofInt (32 : Nat) (List.getD a11 (Int.toNat a5) (0 : Int)))) :
                              Int),
                          (a2, a3), a4, IntKind.wrap IntKind.i64 (a5 + (1 : Int)), ())
                        ((a6, a7, a8, ()), (a9, a10, a11, ()), ())
              else none
            else
              if a2 = (3 : Nat) then none
              else
                if a2 = (4 : Nat) then none
                else if a2 = (5 : Nat) then none else if a2 = (6 : Nat) then none else if a2 = (7 : Nat) then none else none
      else none
    else
      if
          decide
              (IntKind.wrap IntKind.u32
                  (↑(BitVec.toNat (BitVec.ofInt (32 : Nat) a1 &&& BitVec.ofInt (32 : Nat) (1 : Int))) : Int) =
                (0 : Int)) =
            true then
        some ((51 : Int), ())
      else
        if IntKind.wrap IntKind.i64 (a6 - (1 : Int)) < (0 : Int) then none
        else
          if decide (shr' IntKind.u32 a1 (IntKind.wrap IntKind.i64 (a6 - (1 : Int))) = (0 : Int)) = true then
            some ((51 : Int), ())
          else
            Option.bind ((F65 K) ((a6, a7, a8, ()), ()) ()) fun val =>
              if (!decide (val.1 = (1 : Int))) = true then some ((52 : Int), ()) else some ((0 : Int), ())
def F50 (k : Nat) : pin50.T → OPL.T os50 → Option (AT alts50)
  | ((a1, (a2, (a3, ()))), ()), () =>
    if decide (a1 < (3 : Int)) = true then some ((50 : Int), ())
    else
      if decide ((32 : Int) < a1) = true then some ((50 : Int), ())
      else
        if (!decide (a2 = (2 : Int))) = true then
          if (!decide (a2 = (3 : Int))) = true then some ((50 : Int), ())
          else
            if decide (a2 = (2 : Int)) = true then
              if (!decide (List.getD a3 (2 : Nat) (0 : Int) = (0 : Int))) = true then some ((50 : Int), ())
              else
                Option.bind (F64 ((a1, a2, a3, ()), ()) ()) fun val =>
                  (L50_5 k) k ((), (0 : Int), ((Prod.fst val).1, (Prod.fst val).2), (↑(Prod.fst val).2 : Int), (0 : Int), ())
                    ((a1, a2, a3, ()),
                      ((Prod.fst (Prod.snd val)).1, (Prod.snd (Prod.fst (Prod.snd val))).1,
                        (Prod.snd (Prod.snd (Prod.fst (Prod.snd val)))).1, ()),
                      ())
            else
              Option.bind (F64 ((a1, a2, a3, ()), ()) ()) fun val =>
                (L50_5 k) k ((), (0 : Int), ((Prod.fst val).1, (Prod.fst val).2), (↑(Prod.fst val).2 : Int), (0 : Int), ())
                  ((a1, a2, a3, ()),
                    ((Prod.fst (Prod.snd val)).1, (Prod.snd (Prod.fst (Prod.snd val))).1,
                      (Prod.snd (Prod.snd (Prod.fst (Prod.snd val)))).1, ()),
                    ())
        else
          if decide (a2 = (2 : Int)) = true then
            if (!decide (List.getD a3 (2 : Nat) (0 : Int) = (0 : Int))) = true then some ((50 : Int), ())
            else
              Option.bind (F64 ((a1, a2, a3, ()), ()) ()) fun val =>
                (L50_5 k) k ((), (0 : Int), ((Prod.fst val).1, (Prod.fst val).2), (↑(Prod.fst val).2 : Int), (0 : Int), ())
                  ((a1, a2, a3, ()),
                    ((Prod.fst (Prod.snd val)).1, (Prod.snd (Prod.fst (Prod.snd val))).1,
                      (Prod.snd (Prod.snd (Prod.fst (Prod.snd val)))).1, ()),
                    ())
          else
            Option.bind (F64 ((a1, a2, a3, ()), ()) ()) fun val =>
              (L50_5 k) k ((), (0 : Int), ((Prod.fst val).1, (Prod.fst val).2), (↑(Prod.fst val).2 : Int), (0 : Int), ())
                ((a1, a2, a3, ()),
                  ((Prod.fst (Prod.snd val)).1, (Prod.snd (Prod.fst (Prod.snd val))).1,
                    (Prod.snd (Prod.snd (Prod.fst (Prod.snd val)))).1, ()),
                  ())
noncomputable def T50 (K : Nat) : List (Entry Try.prog) := [E64, E65 K]
noncomputable def cuts50 (K : Nat) : List (Cut (AT alts50)) := [⟨5, [1, 3, 36, 37, 38], ps50_5, os50_5, L50_5 K⟩]
theorem s50_5 (K : Nat) : ∀ k x y, L50_5 K (k + 1) x y = roundJ Try.prog (tableJ (T50 K)) (Lof 0 k (cuts50 K)) 5 body50 (endJ Try.prog 0 [.tmp 2] alts50) (stAt [1, 3, 36, 37, 38] ps50_5 os50_5 x y) := by
  rintro k ⟨⟨⟩, ⟨a1, ⟨⟨a2, a3⟩, ⟨a4, ⟨a5, ⟨⟩⟩⟩⟩⟩⟩ ⟨⟨a6, ⟨a7, ⟨a8, ⟨⟩⟩⟩⟩, ⟨⟨a9, ⟨a10, ⟨a11, ⟨⟩⟩⟩⟩, ⟨⟩⟩⟩; kernel_rfl
theorem e50 (k : Nat) : ∀ x y, F50 k x y = codeJ Try.prog (tableJ (T50 k)) (Lof 0 k (cuts50 k)) body50 (st0 pin50 os50 x y) (endJ Try.prog 0 [.tmp 2] alts50) := by
  rintro ⟨⟨a1, ⟨a2, ⟨a3, ⟨⟩⟩⟩⟩, ⟨⟩⟩ ⟨⟩; kernel_rfl
theorem k50 (k : Nat) : FnOK Try.prog 50 pin50 os50 alts50 (F50 k) :=
  fn_ok (fn := Try.f50) (body := body50) (cuts := cuts50 k) (k := k) (C := tableJ (T50 k)) (C' := tableJ (T50 k)) (table_ok _) (table_nat _) (table_ok _) mixed (by kernel_rfl) (by kernel_rfl) (by decide) (by kernel_rfl) (fun x => Nat.le_of_ble_eq_true (by kernel_rfl))
    (List.forall_mem_cons.2 ⟨fun x y => rfl, fun c h => by cases h⟩) (List.forall_mem_cons.2 ⟨s50_5 k, fun c h => by cases h⟩) (e50 k)
noncomputable def E50 (k : Nat) : Entry Try.prog := ⟨50, pin50, os50, alts50, F50 k, k50 k, rfl⟩
/-! 51 R05.Check -/
abbrev pin51 : VPL := (.cons (.agg (.cons (.int .i64) (.cons (.int .i64) (.cons (.arr .u32 3) .nil)))) .nil)
abbrev os51 : List OP := []
abbrev alts51 : List Alt := [(.int .i64, [])]
abbrev ps51_6 : VPL := (.cons (.ptr 0 0) (.cons .bool (.cons .bool (.cons (.int .i64) .nil))))
abbrev os51_6 : List OP := [.box (.cons (.int .i64) (.cons (.int .i64) (.cons (.arr .u32 3) .nil))) true]
noncomputable def body51 : Code := match Try.f51.body with
  | some c => c
  | none => .skip
def L51_6 (K : Nat) : Nat → ps51_6.T → OPL.T os51_6 → Option (AT alts51)
  | 0, _, _ => none
  | k + 1, ((), (a1, (a2, (a3, ())))), ((a4, (a5, (a6, ()))), ()) =>
    if decide (a3 < a5) = true then
      if (0 : Int) ≤ a3 ∧ a3 < (3 : Int) then
        if Int.toNat a3 * (1 : Nat) < (3 : Nat) then
          if decide (IntKind.wrap IntKind.u64 (List.getD a6 (Int.toNat a3 * (1 : Nat)) (0 : Int)) = (0 : Int)) = true then
            some ((50 : Int), ())
          else
            if IntKind.wrap IntKind.u64 a4 < (0 : Int) then none
            else
              if
                  decide
                      ((0 : Int) <
                        shr' IntKind.u64 (IntKind.wrap IntKind.u64 (List.getD a6 (Int.toNat a3 * (1 : Nat)) (0 : Int)))
                          (IntKind.wrap IntKind.u64 a4)) =
                    true then
                some ((50 : Int), ())
              else
                if a1 = true then
                  if a2 = true then
                    (L51_6 K) k ((), true, true, IntKind.wrap IntKind.i64 (a3 + (1 : Int)), ()) ((a4, a5, a6, ()), ())
                  else
                    if IntKind.wrap IntKind.u64 (IntKind.wrap IntKind.i64 (a4 - (1 : Int))) < (0 : Int) then none
                    else
                      (L51_6 K) k
                        ((), true,
                          decide
                            (shr' IntKind.u64 (IntKind.wrap IntKind.u64 (List.getD a6 (Int.toNat a3 * (1 : Nat)) (0 : Int)))
                                (IntKind.wrap IntKind.u64 (IntKind.wrap IntKind.i64 (a4 - (1 : Int)))) =
                              (1 : Int)),
                          IntKind.wrap IntKind.i64 (a3 + (1 : Int)), ())
                        ((a4, a5, a6, ()), ())
                else
                  if a2 = true then
                    (L51_6 K) k
                      ((),
                        decide
                          (Int.tmod (IntKind.wrap IntKind.u64 (List.getD a6 (Int.toNat a3 * (1 : Nat)) (0 : Int)))
                              (2 : Int) =
                            (1 : Int)),
                        true, IntKind.wrap IntKind.i64 (a3 + (1 : Int)), ())
                      ((a4, a5, a6, ()), ())
                  else
                    if IntKind.wrap IntKind.u64 (IntKind.wrap IntKind.i64 (a4 - (1 : Int))) < (0 : Int) then none
                    else
                      (L51_6 K) k
                        ((),
                          decide
                            (Int.tmod (IntKind.wrap IntKind.u64 (List.getD a6 (Int.toNat a3 * (1 : Nat)) (0 : Int)))
                                (2 : Int) =
                              (1 : Int)),
                          decide
                            (shr' IntKind.u64 (IntKind.wrap IntKind.u64 (List.getD a6 (Int.toNat a3 * (1 : Nat)) (0 : Int)))
                                (IntKind.wrap IntKind.u64 (IntKind.wrap IntKind.i64 (a4 - (1 : Int)))) =
                              (1 : Int)),
                          IntKind.wrap IntKind.i64 (a3 + (1 : Int)), ())
                        ((a4, a5, a6, ()), ())
        else none
      else none
    else
      if (!a1) = true then some ((51 : Int), ())
      else
        if (!a2) = true then some ((51 : Int), ())
        else
          Option.bind ((F66 K) ((a4, a5, a6, ()), ()) ()) fun val =>
            if (!decide (val.1 = (1 : Int))) = true then some ((52 : Int), ()) else some ((0 : Int), ())
def F51 (k : Nat) : pin51.T → OPL.T os51 → Option (AT alts51)
  | ((a1, (a2, (a3, ()))), ()), () =>
    if decide (a1 < (3 : Int)) = true then some ((50 : Int), ())
    else
      if decide ((32 : Int) < a1) = true then some ((50 : Int), ())
      else
        if (!decide (a2 = (2 : Int))) = true then
          if (!decide (a2 = (3 : Int))) = true then some ((50 : Int), ())
          else
            if decide (a2 = (2 : Int)) = true then
              if (!decide (List.getD a3 (2 : Nat) (0 : Int) = (0 : Int))) = true then some ((50 : Int), ())
              else (L51_6 k) k ((), false, false, (0 : Int), ()) ((a1, a2, a3, ()), ())
            else (L51_6 k) k ((), false, false, (0 : Int), ()) ((a1, a2, a3, ()), ())
        else
          if decide (a2 = (2 : Int)) = true then
            if (!decide (List.getD a3 (2 : Nat) (0 : Int) = (0 : Int))) = true then some ((50 : Int), ())
            else (L51_6 k) k ((), false, false, (0 : Int), ()) ((a1, a2, a3, ()), ())
          else (L51_6 k) k ((), false, false, (0 : Int), ()) ((a1, a2, a3, ()), ())
noncomputable def T51 (K : Nat) : List (Entry Try.prog) := [E66 K]
noncomputable def cuts51 (K : Nat) : List (Cut (AT alts51)) := [⟨6, [1, 3, 4, 5], ps51_6, os51_6, L51_6 K⟩]
theorem s51_6 (K : Nat) : ∀ k x y, L51_6 K (k + 1) x y = roundJ Try.prog (tableJ (T51 K)) (Lof 0 k (cuts51 K)) 6 body51 (endJ Try.prog 0 [.tmp 2] alts51) (stAt [1, 3, 4, 5] ps51_6 os51_6 x y) := by
  rintro k ⟨⟨⟩, ⟨a1, ⟨a2, ⟨a3, ⟨⟩⟩⟩⟩⟩ ⟨⟨a4, ⟨a5, ⟨a6, ⟨⟩⟩⟩⟩, ⟨⟩⟩; kernel_rfl
theorem e51 (k : Nat) : ∀ x y, F51 k x y = codeJ Try.prog (tableJ (T51 k)) (Lof 0 k (cuts51 k)) body51 (st0 pin51 os51 x y) (endJ Try.prog 0 [.tmp 2] alts51) := by
  rintro ⟨⟨a1, ⟨a2, ⟨a3, ⟨⟩⟩⟩⟩, ⟨⟩⟩ ⟨⟩; kernel_rfl
theorem k51 (k : Nat) : FnOK Try.prog 51 pin51 os51 alts51 (F51 k) :=
  fn_ok (fn := Try.f51) (body := body51) (cuts := cuts51 k) (k := k) (C := tableJ (T51 k)) (C' := tableJ (T51 k)) (table_ok _) (table_nat _) (table_ok _) mixed (by kernel_rfl) (by kernel_rfl) (by decide) (by kernel_rfl) (fun x => Nat.le_of_ble_eq_true (by kernel_rfl))
    (List.forall_mem_cons.2 ⟨fun x y => rfl, fun c h => by cases h⟩) (List.forall_mem_cons.2 ⟨s51_6 k, fun c h => by cases h⟩) (e51 k)
noncomputable def E51 (k : Nat) : Entry Try.prog := ⟨51, pin51, os51, alts51, F51 k, k51 k, rfl⟩
/-! 52 steps -/
abbrev pin52 : VPL := (.cons (.agg (.cons (.int .i64) (.cons (.int .i64) (.cons (.arr .u32 3) (.cons (.int .i64) (.cons (.arr .i64 32) (.cons (.int .i64) (.cons (.lst false (.one (.int .u8))) .nil)))))))) .nil)
abbrev os52 : List OP := []
abbrev alts52 : List Alt := [(.int .i64, [])]
noncomputable def body52 : Code := match Try.f52.body with
  | some c => c
  | none => .skip
def F52 : pin52.T → OPL.T os52 → Option (AT alts52)
  | ((a1, (a2, (a3, (a4, (a5, (a6, (a7, ()))))))), ()), () =>
    some (IntKind.wrap IntKind.i64 (IntKind.wrap IntKind.i64 (a6 + a1) - (1 : Int)), ())
noncomputable def T52 : List (Entry Try.prog) := []
noncomputable def cuts52 : List (Cut (AT alts52)) := []
theorem e52 : ∀ x y, F52 x y = codeJ Try.prog (tableJ (T52)) (Lof 0 0 (cuts52)) body52 (st0 pin52 os52 x y) (endJ Try.prog 0 [.tmp 2] alts52) := by
  rintro ⟨⟨a1, ⟨a2, ⟨a3, ⟨a4, ⟨a5, ⟨a6, ⟨a7, ⟨⟩⟩⟩⟩⟩⟩⟩⟩, ⟨⟩⟩ ⟨⟩; kernel_rfl
theorem k52 : FnOK Try.prog 52 pin52 os52 alts52 (F52) :=
  fn_ok (fn := Try.f52) (body := body52) (cuts := cuts52) (k := 0) (C := tableJ (T52)) (C' := tableJ (T52)) (table_ok _) (table_nat _) (table_ok _) mixed (by kernel_rfl) (by kernel_rfl) (by decide) (by kernel_rfl) (fun x => Nat.le_of_ble_eq_true (by kernel_rfl))
    (fun c h => by cases h) (fun c h => by cases h) (e52)
noncomputable def E52 : Entry Try.prog := ⟨52, pin52, os52, alts52, F52, k52, rfl⟩
/-! 36 score.Check -/
abbrev pin36 : VPL := (.cons (.agg (.cons (.int .i64) (.cons (.int .i64) (.cons (.arr .u32 3) (.cons (.int .i64) (.cons (.arr .i64 32) (.cons (.int .i64) (.cons (.lst false (.one (.int .u8))) .nil)))))))) .nil)
abbrev os36 : List OP := []
abbrev alts36 : List Alt := [(.int .i64, [])]
abbrev ps36_12 : VPL := (.cons (.ptr 0 0) (.cons (.lst false (.one (.int .u8))) (.cons (.int .i64) (.cons (.int .i64) .nil))))
abbrev os36_12 : List OP := [.box (.cons (.int .i64) (.cons (.int .i64) (.cons (.arr .u32 3) (.cons (.int .i64) (.cons (.arr .i64 32) (.cons (.int .i64) (.cons (.lst false (.one (.int .u8))) .nil))))))) true]
noncomputable def body36 : Code := match Try.f36.body with
  | some c => c
  | none => .skip
def L36_12 (K : Nat) : Nat → ps36_12.T → OPL.T os36_12 → Option (AT alts36)
  | 0, _, _ => none
  | k + 1, ((), (a1, (a2, (a3, ())))), ((a4, (a5, (a6, (a7, (a8, (a9, (a10, ()))))))), ()) =>
    if decide (a3 < a2) = true then
      if (0 : Int) ≤ a3 ∧ a3 < (↑(List.length a1) : Int) then
        if decide (a7 ≤ IntKind.wrap IntKind.i64 (List.getD a1 (Int.toNat a3) (0 : Int))) = true then some ((91 : Int), ())
        else (L36_12 K) k ((), a1, a2, IntKind.wrap IntKind.i64 (a3 + (1 : Int)), ()) ((a4, a5, a6, a7, a8, a9, a10, ()), ())
      else none
    else some ((0 : Int), ())
def F36 (k : Nat) : pin36.T → OPL.T os36 → Option (AT alts36)
  | ((a1, (a2, (a3, (a4, (a5, (a6, (a7, ()))))))), ()), () =>
    Option.bind ((F50 k) ((a1, a2, a3, ()), ()) ()) fun val =>
      if (!decide (val.1 = (0 : Int))) = true then some (val.1, ())
      else
        Option.bind ((F49 k) ((a4, a5, ()), ()) ()) fun val =>
          if (!decide (val.1 = (0 : Int))) = true then some (val.1, ())
          else
            if decide (a6 < (1 : Int)) = true then some ((1 : Int), ())
            else
              if decide ((1024 : Int) < a6) = true then some ((1 : Int), ())
              else
                Option.bind (F52 ((a1, a2, a3, a4, a5, a6, a7, ()), ()) ()) fun val =>
                  if (!decide ((↑(List.length a7) : Int) = IntKind.wrap IntKind.i64 (val.1 * a2))) = true then
                    some ((5 : Int), ())
                  else (L36_12 k) k ((), a7, (↑(List.length a7) : Int), (0 : Int), ()) ((a1, a2, a3, a4, a5, a6, a7, ()), ())
noncomputable def T36 (K : Nat) : List (Entry Try.prog) := [E50 K, E49 K, E52]
noncomputable def cuts36 (K : Nat) : List (Cut (AT alts36)) := [⟨12, [1, 40, 41, 42], ps36_12, os36_12, L36_12 K⟩]
theorem s36_12 (K : Nat) : ∀ k x y, L36_12 K (k + 1) x y = roundJ Try.prog (tableJ (T36 K)) (Lof 0 k (cuts36 K)) 12 body36 (endJ Try.prog 0 [.tmp 2] alts36) (stAt [1, 40, 41, 42] ps36_12 os36_12 x y) := by
  rintro k ⟨⟨⟩, ⟨a1, ⟨a2, ⟨a3, ⟨⟩⟩⟩⟩⟩ ⟨⟨a4, ⟨a5, ⟨a6, ⟨a7, ⟨a8, ⟨a9, ⟨a10, ⟨⟩⟩⟩⟩⟩⟩⟩⟩, ⟨⟩⟩; kernel_rfl
theorem e36 (k : Nat) : ∀ x y, F36 k x y = codeJ Try.prog (tableJ (T36 k)) (Lof 0 k (cuts36 k)) body36 (st0 pin36 os36 x y) (endJ Try.prog 0 [.tmp 2] alts36) := by
  rintro ⟨⟨a1, ⟨a2, ⟨a3, ⟨a4, ⟨a5, ⟨a6, ⟨a7, ⟨⟩⟩⟩⟩⟩⟩⟩⟩, ⟨⟩⟩ ⟨⟩; kernel_rfl
theorem k36 (k : Nat) : FnOK Try.prog 36 pin36 os36 alts36 (F36 k) :=
  fn_ok (fn := Try.f36) (body := body36) (cuts := cuts36 k) (k := k) (C := tableJ (T36 k)) (C' := tableJ (T36 k)) (table_ok _) (table_nat _) (table_ok _) mixed (by kernel_rfl) (by kernel_rfl) (by decide) (by kernel_rfl) (fun x => Nat.le_of_ble_eq_true (by kernel_rfl))
    (List.forall_mem_cons.2 ⟨fun x y => rfl, fun c h => by cases h⟩) (List.forall_mem_cons.2 ⟨s36_12 k, fun c h => by cases h⟩) (e36 k)
noncomputable def E36 (k : Nat) : Entry Try.prog := ⟨36, pin36, os36, alts36, F36 k, k36 k, rfl⟩
/-! 35 alike -/
abbrev pin35 : VPL := (.cons (.agg (.cons (.int .i64) (.cons (.int .i64) (.cons (.arr .u32 3) (.cons (.int .i64) (.cons (.arr .i64 32) (.cons (.int .i64) (.cons (.lst false (.one (.int .u8))) .nil)))))))) (.cons (.agg (.cons (.int .i64) (.cons (.int .i64) (.cons (.arr .u32 3) (.cons (.int .i64) (.cons (.arr .i64 32) (.cons (.int .i64) (.cons (.lst false (.one (.int .u8))) .nil)))))))) .nil))
abbrev os35 : List OP := []
abbrev alts35 : List Alt := [(.bool, [])]
noncomputable def body35 : Code := match Try.f35.body with
  | some c => c
  | none => .skip
def F35 : pin35.T → OPL.T os35 → Option (AT alts35)
  | ((a1, (a2, (a3, (a4, (a5, (a6, (a7, ()))))))), ((a8, (a9, (a10, (a11, (a12, (a13, (a14, ()))))))), ())), () =>
    if (decide (a1 = a8) && (decide (a2 = a9) && (decide (a3 = a10) && true))) = true then
      if (decide (a4 = a11) && (decide (a5 = a12) && true)) = true then
        if decide (a6 = a13) = true then Option.bind (F16 (a7, a14, ()) ()) fun val => some (val.1, ())
        else some (false, ())
      else some (false, ())
    else some (false, ())
noncomputable def T35 : List (Entry Try.prog) := [E16]
noncomputable def cuts35 : List (Cut (AT alts35)) := []
theorem e35 : ∀ x y, F35 x y = codeJ Try.prog (tableJ (T35)) (Lof 0 0 (cuts35)) body35 (st0 pin35 os35 x y) (endJ Try.prog 0 [.tmp 4] alts35) := by
  rintro ⟨⟨a1, ⟨a2, ⟨a3, ⟨a4, ⟨a5, ⟨a6, ⟨a7, ⟨⟩⟩⟩⟩⟩⟩⟩⟩, ⟨⟨a8, ⟨a9, ⟨a10, ⟨a11, ⟨a12, ⟨a13, ⟨a14, ⟨⟩⟩⟩⟩⟩⟩⟩⟩, ⟨⟩⟩⟩ ⟨⟩; kernel_rfl
theorem k35 : FnOK Try.prog 35 pin35 os35 alts35 (F35) :=
  fn_ok (fn := Try.f35) (body := body35) (cuts := cuts35) (k := 0) (C := tableJ (T35)) (C' := tableJ (T35)) (table_ok _) (table_nat _) (table_ok _) mixed (by kernel_rfl) (by kernel_rfl) (by decide) (by kernel_rfl) (fun x => Nat.le_of_ble_eq_true (by kernel_rfl))
    (fun c h => by cases h) (fun c h => by cases h) (e35)
noncomputable def E35 : Entry Try.prog := ⟨35, pin35, os35, alts35, F35, k35, rfl⟩
/-! 33 Problem -/
abbrev pin33 : VPL := (.cons (.agg (.cons (.int .i64) (.cons (.arr .u64 3) .nil))) (.cons (.agg (.cons (.int .i64) (.cons (.int .i64) (.cons (.arr .u32 3) .nil)))) (.cons (.agg (.cons (.int .i64) (.cons (.arr .i64 32) .nil))) (.cons (.int .i64) (.cons (.lst false (.one (.int .u8))) .nil)))))
abbrev os33 : List OP := []
abbrev alts33 : List Alt := [(.tup (.cons (.agg (.cons (.int .i64) (.cons (.int .i64) (.cons (.arr .u32 3) (.cons (.int .i64) (.cons (.arr .i64 32) (.cons (.int .i64) (.cons (.full 0) .nil)))))))) (.cons (.int .i64) .nil)), [.row (.one (.int .u8)) true])]
noncomputable def body33 : Code := match Try.f33.body with
  | some c => c
  | none => .skip
def F33 (k : Nat) : pin33.T → OPL.T os33 → Option (AT alts33)
  | ((a1, (a2, ())), ((a3, (a4, (a5, ()))), ((a6, (a7, ())), (a8, (a9, ()))))), () =>
    Option.bind ((F50 k) ((a3, a4, a5, ()), ()) ()) fun val =>
      if (!decide (val.1 = (0 : Int))) = true then
        some
          ((((0 : Int), (0 : Int), List.replicate (3 : Nat) (0 : Int), (0 : Int), List.replicate (32 : Nat) (0 : Int),
                (0 : Int), (), ()),
              val.1, ()),
            [], ())
      else
        Option.bind ((F30 k) ((a6, a7, ()), ()) ()) fun val =>
          if (!decide ((Prod.snd (Prod.fst val)).1 = (0 : Int))) = true then
            some
              ((((0 : Int), (0 : Int), List.replicate (3 : Nat) (0 : Int), (0 : Int), List.replicate (32 : Nat) (0 : Int),
                    (0 : Int), (), ()),
                  (Prod.snd (Prod.fst val)).1, ()),
                [], ())
          else
            Option.bind ((F28 k) ((a1, a2, ()), a4, ()) ()) fun val_1 =>
              if (!decide (val_1.1 = (0 : Int))) = true then
                some
                  ((((0 : Int), (0 : Int), List.replicate (3 : Nat) (0 : Int), (0 : Int),
                        List.replicate (32 : Nat) (0 : Int), (0 : Int), (), ()),
                      val_1.1, ()),
                    [], ())
              else
                if decide (a8 < (1 : Int)) = true then
                  some
                    ((((0 : Int), (0 : Int), List.replicate (3 : Nat) (0 : Int), (0 : Int),
                          List.replicate (32 : Nat) (0 : Int), (0 : Int), (), ()),
                        (1 : Int), ()),
                      [], ())
                else
                  if decide ((1024 : Int) < a8) = true then
                    some
                      ((((0 : Int), (0 : Int), List.replicate (3 : Nat) (0 : Int), (0 : Int),
                            List.replicate (32 : Nat) (0 : Int), (0 : Int), (), ()),
                          (1 : Int), ()),
                        [], ())
                  else
                    Option.bind
                      ((F20 k)
                        ((a1, a2, ()), a4, a6, IntKind.wrap IntKind.i64 (IntKind.wrap IntKind.i64 (a8 + a3) - (1 : Int)),
                          a9, ())
                        ())
                      fun val_2 =>
                      if (!decide ((Prod.snd (Prod.fst val_2)).1 = (0 : Int))) = true then
                        some
                          ((((0 : Int), (0 : Int), List.replicate (3 : Nat) (0 : Int), (0 : Int),
                                List.replicate (32 : Nat) (0 : Int), (0 : Int), (), ()),
                              (Prod.snd (Prod.fst val_2)).1, ()),
                            [], ())
                      else
                        some
                          (((a3, a4, a5, (Prod.fst (Prod.fst val)).1, (Prod.snd (Prod.fst (Prod.fst val))).1, a8, (), ()),
                              (0 : Int), ()),
                            (Prod.snd val_2).1, ())
noncomputable def T33 (K : Nat) : List (Entry Try.prog) := [E50 K, E30 K, E28 K, E20 K]
noncomputable def cuts33 (K : Nat) : List (Cut (AT alts33)) := []
theorem e33 (k : Nat) : ∀ x y, F33 k x y = codeJ Try.prog (tableJ (T33 k)) (Lof 0 k (cuts33 k)) body33 (st0 pin33 os33 x y) (endJ Try.prog 0 [.cell 10 76, .tmp 11] alts33) := by
  rintro ⟨⟨a1, ⟨a2, ⟨⟩⟩⟩, ⟨⟨a3, ⟨a4, ⟨a5, ⟨⟩⟩⟩⟩, ⟨⟨a6, ⟨a7, ⟨⟩⟩⟩, ⟨a8, ⟨a9, ⟨⟩⟩⟩⟩⟩⟩ ⟨⟩; kernel_rfl
theorem k33 (k : Nat) : FnOK Try.prog 33 pin33 os33 alts33 (F33 k) :=
  fn_ok (fn := Try.f33) (body := body33) (cuts := cuts33 k) (k := k) (C := tableJ (T33 k)) (C' := tableJ (T33 k)) (table_ok _) (table_nat _) (table_ok _) mixed (by kernel_rfl) (by kernel_rfl) (by decide) (by kernel_rfl) (fun x => Nat.le_of_ble_eq_true (by kernel_rfl))
    (fun c h => by cases h) (fun c h => by cases h) (e33 k)
noncomputable def E33 (k : Nat) : Entry Try.prog := ⟨33, pin33, os33, alts33, F33 k, k33 k, rfl⟩
/-! 34 R.Problem -/
abbrev pin34 : VPL := (.cons (.agg (.cons (.int .i64) (.cons (.arr .u64 3) .nil))) (.cons (.agg (.cons (.int .i64) (.cons (.int .i64) (.cons (.arr .u32 3) .nil)))) (.cons (.agg (.cons (.int .i64) (.cons (.arr .i64 32) .nil))) (.cons (.int .i64) (.cons (.lst false (.one (.int .u8))) .nil)))))
abbrev os34 : List OP := []
abbrev alts34 : List Alt := [(.tup (.cons (.agg (.cons (.int .i64) (.cons (.int .i64) (.cons (.arr .u32 3) (.cons (.int .i64) (.cons (.arr .i64 32) (.cons (.int .i64) (.cons (.full 0) .nil)))))))) (.cons (.int .i64) .nil)), [.row (.one (.int .u8)) true])]
noncomputable def body34 : Code := match Try.f34.body with
  | some c => c
  | none => .skip
def F34 (k : Nat) : pin34.T → OPL.T os34 → Option (AT alts34)
  | ((a1, (a2, ())), ((a3, (a4, (a5, ()))), ((a6, (a7, ())), (a8, (a9, ()))))), () =>
    Option.bind ((F51 k) ((a3, a4, a5, ()), ()) ()) fun val =>
      if (!decide (val.1 = (0 : Int))) = true then
        some
          ((((0 : Int), (0 : Int), List.replicate (3 : Nat) (0 : Int), (0 : Int), List.replicate (32 : Nat) (0 : Int),
                (0 : Int), (), ()),
              val.1, ()),
            [], ())
      else
        Option.bind ((F31 k) ((a6, a7, ()), ()) ()) fun val =>
          if (!decide ((Prod.snd (Prod.fst val)).1 = (0 : Int))) = true then
            some
              ((((0 : Int), (0 : Int), List.replicate (3 : Nat) (0 : Int), (0 : Int), List.replicate (32 : Nat) (0 : Int),
                    (0 : Int), (), ()),
                  (Prod.snd (Prod.fst val)).1, ()),
                [], ())
          else
            Option.bind ((F29 k) ((a1, a2, ()), a4, ()) ()) fun val_1 =>
              if decide (val_1.1 = (0 : Int)) = true then
                if decide (a8 < (1 : Int)) = true then
                  some
                    ((((0 : Int), (0 : Int), List.replicate (3 : Nat) (0 : Int), (0 : Int),
                          List.replicate (32 : Nat) (0 : Int), (0 : Int), (), ()),
                        (1 : Int), ()),
                      [], ())
                else
                  if decide ((1024 : Int) < a8) = true then
                    some
                      ((((0 : Int), (0 : Int), List.replicate (3 : Nat) (0 : Int), (0 : Int),
                            List.replicate (32 : Nat) (0 : Int), (0 : Int), (), ()),
                          (1 : Int), ()),
                        [], ())
                  else
                    if (!decide (val_1.1 = (0 : Int))) = true then
                      some
                        ((((0 : Int), (0 : Int), List.replicate (3 : Nat) (0 : Int), (0 : Int),
                              List.replicate (32 : Nat) (0 : Int), (0 : Int), (), ()),
                            val_1.1, ()),
                          [], ())
                    else
                      Option.bind
                        ((F21 k)
                          ((a1, a2, ()), a4, a6, IntKind.wrap IntKind.i64 (IntKind.wrap IntKind.i64 (a8 + a3) - (1 : Int)),
                            a9, ())
                          ())
                        fun val_2 =>
                        if (!decide ((Prod.snd (Prod.fst val_2)).1 = (0 : Int))) = true then
                          some
                            ((((0 : Int), (0 : Int), List.replicate (3 : Nat) (0 : Int), (0 : Int),
                                  List.replicate (32 : Nat) (0 : Int), (0 : Int), (), ()),
                                (Prod.snd (Prod.fst val_2)).1, ()),
                              [], ())
                        else
                          some
                            (((a3, a4, a5, (Prod.fst (Prod.fst val)).1, (Prod.snd (Prod.fst (Prod.fst val))).1, a8, (), ()),
                                (0 : Int), ()),
                              (Prod.snd val_2).1, ())
              else
                if (!decide (val_1.1 = (0 : Int))) = true then
                  some
                    ((((0 : Int), (0 : Int), List.replicate (3 : Nat) (0 : Int), (0 : Int),
                          List.replicate (32 : Nat) (0 : Int), (0 : Int), (), ()),
                        val_1.1, ()),
                      [], ())
                else
                  Option.bind
                    ((F21 k)
                      ((a1, a2, ()), a4, a6, IntKind.wrap IntKind.i64 (IntKind.wrap IntKind.i64 (a8 + a3) - (1 : Int)), a9,
                        ())
                      ())
                    fun val_2 =>
                    if (!decide ((Prod.snd (Prod.fst val_2)).1 = (0 : Int))) = true then
                      some
                        ((((0 : Int), (0 : Int), List.replicate (3 : Nat) (0 : Int), (0 : Int),
                              List.replicate (32 : Nat) (0 : Int), (0 : Int), (), ()),
                            (Prod.snd (Prod.fst val_2)).1, ()),
                          [], ())
                    else
                      some
                        (((a3, a4, a5, (Prod.fst (Prod.fst val)).1, (Prod.snd (Prod.fst (Prod.fst val))).1, a8, (), ()),
                            (0 : Int), ()),
                          (Prod.snd val_2).1, ())
noncomputable def T34 (K : Nat) : List (Entry Try.prog) := [E51 K, E31 K, E29 K, E21 K]
noncomputable def cuts34 (K : Nat) : List (Cut (AT alts34)) := []
theorem e34 (k : Nat) : ∀ x y, F34 k x y = codeJ Try.prog (tableJ (T34 k)) (Lof 0 k (cuts34 k)) body34 (st0 pin34 os34 x y) (endJ Try.prog 0 [.cell 10 76, .tmp 11] alts34) := by
  rintro ⟨⟨a1, ⟨a2, ⟨⟩⟩⟩, ⟨⟨a3, ⟨a4, ⟨a5, ⟨⟩⟩⟩⟩, ⟨⟨a6, ⟨a7, ⟨⟩⟩⟩, ⟨a8, ⟨a9, ⟨⟩⟩⟩⟩⟩⟩ ⟨⟩; kernel_rfl
theorem k34 (k : Nat) : FnOK Try.prog 34 pin34 os34 alts34 (F34 k) :=
  fn_ok (fn := Try.f34) (body := body34) (cuts := cuts34 k) (k := k) (C := tableJ (T34 k)) (C' := tableJ (T34 k)) (table_ok _) (table_nat _) (table_ok _) mixed (by kernel_rfl) (by kernel_rfl) (by decide) (by kernel_rfl) (fun x => Nat.le_of_ble_eq_true (by kernel_rfl))
    (fun c h => by cases h) (fun c h => by cases h) (e34 k)
noncomputable def E34 (k : Nat) : Entry Try.prog := ⟨34, pin34, os34, alts34, F34 k, k34 k, rfl⟩
/-! 72 OnesCount32 -/
abbrev pin72 : VPL := (.cons (.int .u32) .nil)
abbrev os72 : List OP := []
abbrev alts72 : List Alt := [(.int .i64, [])]
noncomputable def body72 : Code := match Try.f72.body with
  | some c => c
  | none => .skip
def tab72_0 : List Int := (List.map (fun b => (↑(BitVec.toNat b.1) : Int)) (List.append (List.append [(0 : UInt8), (1 : UInt8), (1 : UInt8), (2 : UInt8), (1 : UInt8), (2 : UInt8), (2 : UInt8), (3 : UInt8), (1 : UInt8), (2 : UInt8), (2 : UInt8), (3 : UInt8), (2 : UInt8), (3 : UInt8), (3 : UInt8), (4 : UInt8), (1 : UInt8), (2 : UInt8), (2 : UInt8), (3 : UInt8), (2 : UInt8), (3 : UInt8), (3 : UInt8), (4 : UInt8), (2 : UInt8), (3 : UInt8), (3 : UInt8), (4 : UInt8), (3 : UInt8), (4 : UInt8), (4 : UInt8), (5 : UInt8), (1 : UInt8), (2 : UInt8), (2 : UInt8), (3 : UInt8), (2 : UInt8), (3 : UInt8), (3 : UInt8), (4 : UInt8), (2 : UInt8), (3 : UInt8), (3 : UInt8), (4 : UInt8), (3 : UInt8), (4 : UInt8), (4 : UInt8), (5 : UInt8), (2 : UInt8), (3 : UInt8), (3 : UInt8), (4 : UInt8), (3 : UInt8), (4 : UInt8), (4 : UInt8), (5 : UInt8), (3 : UInt8), (4 : UInt8), (4 : UInt8), (5 : UInt8), (4 : UInt8), (5 : UInt8), (5 : UInt8), (6 : UInt8)] [(1 : UInt8), (2 : UInt8), (2 : UInt8), (3 : UInt8), (2 : UInt8), (3 : UInt8), (3 : UInt8), (4 : UInt8), (2 : UInt8), (3 : UInt8), (3 : UInt8), (4 : UInt8), (3 : UInt8), (4 : UInt8), (4 : UInt8), (5 : UInt8), (2 : UInt8), (3 : UInt8), (3 : UInt8), (4 : UInt8), (3 : UInt8), (4 : UInt8), (4 : UInt8), (5 : UInt8), (3 : UInt8), (4 : UInt8), (4 : UInt8), (5 : UInt8), (4 : UInt8), (5 : UInt8), (5 : UInt8), (6 : UInt8), (2 : UInt8), (3 : UInt8), (3 : UInt8), (4 : UInt8), (3 : UInt8), (4 : UInt8), (4 : UInt8), (5 : UInt8), (3 : UInt8), (4 : UInt8), (4 : UInt8), (5 : UInt8), (4 : UInt8), (5 : UInt8), (5 : UInt8), (6 : UInt8), (3 : UInt8), (4 : UInt8), (4 : UInt8), (5 : UInt8), (4 : UInt8), (5 : UInt8), (5 : UInt8), (6 : UInt8), (4 : UInt8), (5 : UInt8), (5 : UInt8), (6 : UInt8), (5 : UInt8), (6 : UInt8), (6 : UInt8), (7 : UInt8)]) (List.append [(1 : UInt8), (2 : UInt8), (2 : UInt8), (3 : UInt8), (2 : UInt8), (3 : UInt8), (3 : UInt8), (4 : UInt8), (2 : UInt8), (3 : UInt8), (3 : UInt8), (4 : UInt8), (3 : UInt8), (4 : UInt8), (4 : UInt8), (5 : UInt8), (2 : UInt8), (3 : UInt8), (3 : UInt8), (4 : UInt8), (3 : UInt8), (4 : UInt8), (4 : UInt8), (5 : UInt8), (3 : UInt8), (4 : UInt8), (4 : UInt8), (5 : UInt8), (4 : UInt8), (5 : UInt8), (5 : UInt8), (6 : UInt8), (2 : UInt8), (3 : UInt8), (3 : UInt8), (4 : UInt8), (3 : UInt8), (4 : UInt8), (4 : UInt8), (5 : UInt8), (3 : UInt8), (4 : UInt8), (4 : UInt8), (5 : UInt8), (4 : UInt8), (5 : UInt8), (5 : UInt8), (6 : UInt8), (3 : UInt8), (4 : UInt8), (4 : UInt8), (5 : UInt8), (4 : UInt8), (5 : UInt8), (5 : UInt8), (6 : UInt8), (4 : UInt8), (5 : UInt8), (5 : UInt8), (6 : UInt8), (5 : UInt8), (6 : UInt8), (6 : UInt8), (7 : UInt8)] [(2 : UInt8), (3 : UInt8), (3 : UInt8), (4 : UInt8), (3 : UInt8), (4 : UInt8), (4 : UInt8), (5 : UInt8), (3 : UInt8), (4 : UInt8), (4 : UInt8), (5 : UInt8), (4 : UInt8), (5 : UInt8), (5 : UInt8), (6 : UInt8), (3 : UInt8), (4 : UInt8), (4 : UInt8), (5 : UInt8), (4 : UInt8), (5 : UInt8), (5 : UInt8), (6 : UInt8), (4 : UInt8), (5 : UInt8), (5 : UInt8), (6 : UInt8), (5 : UInt8), (6 : UInt8), (6 : UInt8), (7 : UInt8), (3 : UInt8), (4 : UInt8), (4 : UInt8), (5 : UInt8), (4 : UInt8), (5 : UInt8), (5 : UInt8), (6 : UInt8), (4 : UInt8), (5 : UInt8), (5 : UInt8), (6 : UInt8), (5 : UInt8), (6 : UInt8), (6 : UInt8), (7 : UInt8), (4 : UInt8), (5 : UInt8), (5 : UInt8), (6 : UInt8), (5 : UInt8), (6 : UInt8), (6 : UInt8), (7 : UInt8), (5 : UInt8), (6 : UInt8), (6 : UInt8), (7 : UInt8), (6 : UInt8), (7 : UInt8), (7 : UInt8), (8 : UInt8)])))
def F72 : pin72.T → OPL.T os72 → Option (AT alts72)
  | (a1, ()), () =>
    if (0 : Int) ≤ shr' IntKind.u32 a1 (24 : Int) ∧ shr' IntKind.u32 a1 (24 : Int) < (256 : Int) then if (0 : Int) ≤ IntKind.wrap IntKind.u32 (↑(BitVec.toNat (BitVec.ofInt (32 : Nat) (shr' IntKind.u32 a1 (16 : Int)) &&& BitVec.ofInt (32 : Nat) (255 : Int))) : Int) ∧ IntKind.wrap IntKind.u32 (↑(BitVec.toNat (BitVec.ofInt (32 : Nat) (shr' IntKind.u32 a1 (16 : Int)) &&& BitVec.ofInt (32 : Nat) (255 : Int))) : Int) < (256 : Int) then if (0 : Int) ≤ IntKind.wrap IntKind.u32 (↑(BitVec.toNat (BitVec.ofInt (32 : Nat) (shr' IntKind.u32 a1 (8 : Int)) &&& BitVec.ofInt (32 : Nat) (255 : Int))) : Int) ∧ IntKind.wrap IntKind.u32 (↑(BitVec.toNat (BitVec.ofInt (32 : Nat) (shr' IntKind.u32 a1 (8 : Int)) &&& BitVec.ofInt (32 : Nat) (255 : Int))) : Int) < (256 : Int) then if (0 : Int) ≤ IntKind.wrap IntKind.u32 (↑(BitVec.toNat (BitVec.ofInt (32 : Nat) a1 &&& BitVec.ofInt (32 : Nat) (255 : Int))) : Int) ∧ IntKind.wrap IntKind.u32 (↑(BitVec.toNat (BitVec.ofInt (32 : Nat) a1 &&& BitVec.ofInt (32 : Nat) (255 : Int))) : Int) < (256 : Int) then some (IntKind.wrap IntKind.i64 (IntKind.wrap IntKind.u8 (IntKind.wrap IntKind.u8 (IntKind.wrap IntKind.u8 (List.getD tab72_0 (Int.toNat (shr' IntKind.u32 a1 (24 : Int))) (0 : Int) + List.getD tab72_0 (Int.toNat (IntKind.wrap IntKind.u32 (↑(BitVec.toNat (BitVec.ofInt (32 : Nat) (shr' IntKind.u32 a1 (16 : Int)) &&& BitVec.ofInt (32 : Nat) (255 : Int))) : Int))) (0 : Int)) + List.getD tab72_0 (Int.toNat (IntKind.wrap IntKind.u32 (↑(BitVec.toNat (BitVec.ofInt (32 : Nat) (shr' IntKind.u32 a1 (8 : Int)) &&& BitVec.ofInt (32 : Nat) (255 : Int))) : Int))) (0 : Int)) + List.getD tab72_0 (Int.toNat (IntKind.wrap IntKind.u32 (↑(BitVec.toNat (BitVec.ofInt (32 : Nat) a1 &&& BitVec.ofInt (32 : Nat) (255 : Int))) : Int))) (0 : Int))), ()) else none else none else none else none
noncomputable def T72 : List (Entry Try.prog) := []
noncomputable def cuts72 : List (Cut (AT alts72)) := []
theorem e72 : ∀ x y, F72 x y = codeJ Try.prog (tableJ (T72)) (Lof 0 0 (cuts72)) body72 (st0 pin72 os72 x y) (endJ Try.prog 0 [.tmp 2] alts72) := by
  rintro ⟨a1, ⟨⟩⟩ ⟨⟩; kernel_rfl
theorem k72 : FnOK Try.prog 72 pin72 os72 alts72 (F72) :=
  fn_ok (fn := Try.f72) (body := body72) (cuts := cuts72) (k := 0) (C := tableJ (T72)) (C' := tableJ (T72)) (table_ok _) (table_nat _) (table_ok _) mixed (by kernel_rfl) (by kernel_rfl) (by decide) (by kernel_rfl) (fun x => Nat.le_of_ble_eq_true (by kernel_rfl))
    (fun c h => by cases h) (fun c h => by cases h) (e72)
noncomputable def E72 : Entry Try.prog := ⟨72, pin72, os72, alts72, F72, k72, rfl⟩
/-! 83 trellis.step -/
abbrev pin83 : VPL := (.cons (.agg (.cons (.int .i64) (.cons (.int .i64) (.cons (.arr .u32 3) .nil)))) (.cons (.int .u32) (.cons (.int .u8) .nil)))
abbrev os83 : List OP := []
abbrev alts83 : List Alt := [(.tup (.cons (.int .u32) (.cons (.arr .u8 3) .nil)), [])]
abbrev ps83_4 : VPL := (.cons (.ptr 0 0) (.cons (.ptr 1 0) (.cons (.int .u32) (.cons (.ptr 2 0) (.cons (.int .i64) (.cons (.int .i64) .nil))))))
abbrev os83_4 : List OP := [.box (.cons (.int .i64) (.cons (.int .i64) (.cons (.arr .u32 3) .nil))) true, .box (.cons (.arr .u8 3) .nil) true, .box (.cons (.arr .u8 3) .nil) true]
noncomputable def body83 : Code := match Try.f83.body with
  | some c => c
  | none => .skip
def L83_4 : Nat → ps83_4.T → OPL.T os83_4 → Option (AT alts83)
  | 0, _, _ => none
  | k + 1, ((), ((), (a1, ((), (a2, (a3, ())))))), ((a4, (a5, (a6, ()))), ((a7, ()), ((a8, ()), ()))) =>
    if decide (a3 < a2) = true then
      if (0 : Int) ≤ a3 ∧ a3 < (3 : Int) then
        if Int.toNat a3 * (1 : Nat) < (3 : Nat) then
          Option.bind
            (F72
              (IntKind.wrap IntKind.u32
                  (↑(BitVec.toNat
                        (BitVec.ofInt (32 : Nat) a1 &&&
                          BitVec.ofInt (32 : Nat) (List.getD a6 (Int.toNat a3 * (1 : Nat)) (0 : Int)))) :
                    Int),
                ())
              ())
            fun val =>
            if (0 : Int) ≤ a3 ∧ a3 < (3 : Int) then
              if Int.toNat a3 * (1 : Nat) < (3 : Nat) then
                L83_4 k ((), (), a1, (), a2, IntKind.wrap IntKind.i64 (a3 + (1 : Int)), ())
                  ((a4, a5, a6, ()), (a7, ()),
                    (List.set a8 (Int.toNat a3 * (1 : Nat))
                        (IntKind.wrap IntKind.u8
                          (IntKind.wrap IntKind.i64
                            (↑(BitVec.toNat (BitVec.ofInt (64 : Nat) val.1 &&& BitVec.ofInt (64 : Nat) (1 : Int))) : Int))),
                      ()),
                    ())
              else none
            else none
        else none
      else none
    else
      if IntKind.wrap IntKind.i64 (a4 - (1 : Int)) < (0 : Int) then none
      else
        some
          ((IntKind.wrap IntKind.u32
                (↑(BitVec.toNat
                      (BitVec.ofInt (32 : Nat) a1 &&&
                        BitVec.ofInt (32 : Nat)
                          (IntKind.wrap IntKind.u32
                            (shl' IntKind.u32 (1 : Int) (IntKind.wrap IntKind.i64 (a4 - (1 : Int))) - (1 : Int))))) :
                  Int),
              a8, ()),
            ())
def F83 (k : Nat) : pin83.T → OPL.T os83 → Option (AT alts83)
  | ((a1, (a2, (a3, ()))), (a4, (a5, ()))), () =>
    L83_4 k
      ((), (),
        IntKind.wrap IntKind.u32
          (↑(BitVec.toNat
                (BitVec.ofInt (32 : Nat) (shl' IntKind.u32 a4 (1 : Int)) |||
                  BitVec.ofInt (32 : Nat) (IntKind.wrap IntKind.u32 a5))) :
            Int),
        (), a2, (0 : Int), ())
      ((a1, a2, a3, ()), (List.replicate (3 : Nat) (0 : Int), ()), (List.replicate (3 : Nat) (0 : Int), ()), ())
noncomputable def T83 : List (Entry Try.prog) := [E72]
noncomputable def cuts83 : List (Cut (AT alts83)) := [⟨4, [3, 7, 8, 9, 17, 18], ps83_4, os83_4, L83_4⟩]
theorem s83_4 : ∀ k x y, L83_4 (k + 1) x y = roundJ Try.prog (tableJ (T83)) (Lof 0 k (cuts83)) 4 body83 (endJ Try.prog 0 [.tmp 6, .cell 7 111] alts83) (stAt [3, 7, 8, 9, 17, 18] ps83_4 os83_4 x y) := by
  rintro k ⟨⟨⟩, ⟨⟨⟩, ⟨a1, ⟨⟨⟩, ⟨a2, ⟨a3, ⟨⟩⟩⟩⟩⟩⟩⟩ ⟨⟨a4, ⟨a5, ⟨a6, ⟨⟩⟩⟩⟩, ⟨⟨a7, ⟨⟩⟩, ⟨⟨a8, ⟨⟩⟩, ⟨⟩⟩⟩⟩; kernel_rfl
theorem e83 (k : Nat) : ∀ x y, F83 k x y = codeJ Try.prog (tableJ (T83)) (Lof 0 k (cuts83)) body83 (st0 pin83 os83 x y) (endJ Try.prog 0 [.tmp 6, .cell 7 111] alts83) := by
  rintro ⟨⟨a1, ⟨a2, ⟨a3, ⟨⟩⟩⟩⟩, ⟨a4, ⟨a5, ⟨⟩⟩⟩⟩ ⟨⟩; kernel_rfl
theorem k83 (k : Nat) : FnOK Try.prog 83 pin83 os83 alts83 (F83 k) :=
  fn_ok (fn := Try.f83) (body := body83) (cuts := cuts83) (k := k) (C := tableJ (T83)) (C' := tableJ (T83)) (table_ok _) (table_nat _) (table_ok _) mixed (by kernel_rfl) (by kernel_rfl) (by decide) (by kernel_rfl) (fun x => Nat.le_of_ble_eq_true (by kernel_rfl))
    (List.forall_mem_cons.2 ⟨fun x y => rfl, fun c h => by cases h⟩) (List.forall_mem_cons.2 ⟨s83_4, fun c h => by cases h⟩) (e83 k)
noncomputable def E83 (k : Nat) : Entry Try.prog := ⟨83, pin83, os83, alts83, F83 k, k83 k, rfl⟩
/-! 82 right -/
abbrev pin82 : VPL := (.cons (.agg (.cons (.int .i64) (.cons (.int .i64) (.cons (.arr .u32 3) .nil)))) (.cons (.int .u32) (.cons (.int .u8) .nil)))
abbrev os82 : List OP := []
abbrev alts82 : List Alt := [(.int .i64, [])]
noncomputable def body82 : Code := match Try.f82.body with
  | some c => c
  | none => .skip
def F82 (k : Nat) : pin82.T → OPL.T os82 → Option (AT alts82)
  | ((a1, (a2, (a3, ()))), (a4, (a5, ()))), () =>
    Option.bind ((F50 k) ((a1, a2, a3, ()), ()) ()) fun val =>
      if (!decide (val.1 = (0 : Int))) = true then some (val.1, ())
      else
        if IntKind.wrap IntKind.i64 (a1 - (1 : Int)) < (0 : Int) then none
        else
          if
              (!decide
                    (shr' IntKind.u64 (IntKind.wrap IntKind.u64 a4) (IntKind.wrap IntKind.i64 (a1 - (1 : Int))) =
                      (0 : Int))) =
                true then
            some ((11 : Int), ())
          else if decide ((1 : Int) < a5) = true then some ((10 : Int), ()) else some ((0 : Int), ())
noncomputable def T82 (K : Nat) : List (Entry Try.prog) := [E50 K]
noncomputable def cuts82 (K : Nat) : List (Cut (AT alts82)) := []
theorem e82 (k : Nat) : ∀ x y, F82 k x y = codeJ Try.prog (tableJ (T82 k)) (Lof 0 k (cuts82 k)) body82 (st0 pin82 os82 x y) (endJ Try.prog 0 [.tmp 6] alts82) := by
  rintro ⟨⟨a1, ⟨a2, ⟨a3, ⟨⟩⟩⟩⟩, ⟨a4, ⟨a5, ⟨⟩⟩⟩⟩ ⟨⟩; kernel_rfl
theorem k82 (k : Nat) : FnOK Try.prog 82 pin82 os82 alts82 (F82 k) :=
  fn_ok (fn := Try.f82) (body := body82) (cuts := cuts82 k) (k := k) (C := tableJ (T82 k)) (C' := tableJ (T82 k)) (table_ok _) (table_nat _) (table_ok _) mixed (by kernel_rfl) (by kernel_rfl) (by decide) (by kernel_rfl) (fun x => Nat.le_of_ble_eq_true (by kernel_rfl))
    (fun c h => by cases h) (fun c h => by cases h) (e82 k)
noncomputable def E82 (k : Nat) : Entry Try.prog := ⟨82, pin82, os82, alts82, F82 k, k82 k, rfl⟩
/-! 78 Step -/
abbrev pin78 : VPL := (.cons (.agg (.cons (.int .i64) (.cons (.int .i64) (.cons (.arr .u32 3) .nil)))) (.cons (.int .u32) (.cons (.int .u8) .nil)))
abbrev os78 : List OP := []
abbrev alts78 : List Alt := [(.tup (.cons (.int .u32) (.cons (.arr .u8 3) (.cons (.int .i64) .nil))), [])]
noncomputable def body78 : Code := match Try.f78.body with
  | some c => c
  | none => .skip
def F78 (k : Nat) : pin78.T → OPL.T os78 → Option (AT alts78)
  | ((a1, (a2, (a3, ()))), (a4, (a5, ()))), () =>
    Option.bind ((F82 k) ((a1, a2, a3, ()), a4, a5, ()) ()) fun val =>
      if (!decide (val.1 = (0 : Int))) = true then some (((0 : Int), List.replicate (3 : Nat) (0 : Int), val.1, ()), ())
      else
        Option.bind ((F83 k) ((a1, a2, a3, ()), a4, a5, ()) ()) fun val =>
          some (((Prod.fst val).1, (Prod.snd (Prod.fst val)).1, (0 : Int), ()), ())
noncomputable def T78 (K : Nat) : List (Entry Try.prog) := [E82 K, E83 K]
noncomputable def cuts78 (K : Nat) : List (Cut (AT alts78)) := []
theorem e78 (k : Nat) : ∀ x y, F78 k x y = codeJ Try.prog (tableJ (T78 k)) (Lof 0 k (cuts78 k)) body78 (st0 pin78 os78 x y) (endJ Try.prog 0 [.tmp 6, .cell 7 111, .tmp 8] alts78) := by
  rintro ⟨⟨a1, ⟨a2, ⟨a3, ⟨⟩⟩⟩⟩, ⟨a4, ⟨a5, ⟨⟩⟩⟩⟩ ⟨⟩; kernel_rfl
theorem k78 (k : Nat) : FnOK Try.prog 78 pin78 os78 alts78 (F78 k) :=
  fn_ok (fn := Try.f78) (body := body78) (cuts := cuts78 k) (k := k) (C := tableJ (T78 k)) (C' := tableJ (T78 k)) (table_ok _) (table_nat _) (table_ok _) mixed (by kernel_rfl) (by kernel_rfl) (by decide) (by kernel_rfl) (fun x => Nat.le_of_ble_eq_true (by kernel_rfl))
    (fun c h => by cases h) (fun c h => by cases h) (e78 k)
noncomputable def E78 (k : Nat) : Entry Try.prog := ⟨78, pin78, os78, alts78, F78 k, k78 k, rfl⟩
/-! 76 fault -/
abbrev pin76 : VPL := (.cons (.agg (.cons (.int .i64) (.cons (.arr .i64 32) .nil))) (.cons (.lst false (.one (.int .u8))) (.cons (.arr .u8 3) .nil)))
abbrev os76 : List OP := []
abbrev alts76 : List Alt := [(.int .i64, [])]
abbrev ps76_2 : VPL := (.cons (.lst false (.one (.int .u8))) (.cons (.ptr 0 0) (.cons (.ptr 1 0) (.cons (.lst false (.one (.int .u8))) (.cons (.int .i64) (.cons (.int .i64) .nil))))))
abbrev os76_2 : List OP := [.box (.cons (.int .i64) (.cons (.arr .i64 32) .nil)) true, .box (.cons (.arr .u8 3) .nil) true]
abbrev ps76_8 : VPL := (.cons (.ptr 0 0) (.cons (.int .i64) (.cons (.int .i64) .nil)))
abbrev os76_8 : List OP := [.box (.cons (.arr .u8 3) .nil) true]
noncomputable def body76 : Code := match Try.f76.body with
  | some c => c
  | none => .skip
def L76_8 : Nat → ps76_8.T → OPL.T os76_8 → Option (AT alts76)
  | 0, _, _ => none
  | k + 1, ((), (a1, (a2, ()))), ((a3, ()), ()) =>
    if decide (a2 < a1) = true then
      if (0 : Int) ≤ a2 ∧ a2 < (3 : Int) then
        if Int.toNat a2 * (1 : Nat) < (3 : Nat) then
          if decide ((1 : Int) < List.getD a3 (Int.toNat a2 * (1 : Nat)) (0 : Int)) = true then some ((1 : Int), ())
          else L76_8 k ((), a1, IntKind.wrap IntKind.i64 (a2 + (1 : Int)), ()) ((a3, ()), ())
        else none
      else none
    else some ((2 : Int), ())
def L76_2 : Nat → ps76_2.T → OPL.T os76_2 → Option (AT alts76)
  | 0, _, _ => none
  | k + 1, (a1, ((), ((), (a2, (a3, (a4, ())))))), ((a5, (a6, ())), ((a7, ()), ())) =>
    if decide (a4 < a3) = true then
      if (0 : Int) ≤ a4 ∧ a4 < (↑(List.length a2) : Int) then
        if decide (a5 ≤ IntKind.wrap IntKind.i64 (List.getD a2 (Int.toNat a4) (0 : Int))) = true then some ((0 : Int), ())
        else L76_2 k (a1, (), (), a2, a3, IntKind.wrap IntKind.i64 (a4 + (1 : Int)), ()) ((a5, a6, ()), (a7, ()), ())
      else none
    else L76_8 k ((), (↑(List.length a1) : Int), (0 : Int), ()) ((a7, ()), ())
def F76 (k : Nat) : pin76.T → OPL.T os76 → Option (AT alts76)
  | ((a1, (a2, ())), (a3, (a4, ()))), () =>
    L76_2 k (a3, (), (), a3, (↑(List.length a3) : Int), (0 : Int), ()) ((a1, a2, ()), (a4, ()), ())
noncomputable def T76 : List (Entry Try.prog) := []
noncomputable def cuts76 : List (Cut (AT alts76)) := [⟨2, [1, 3, 5, 10, 11, 12], ps76_2, os76_2, L76_2⟩, ⟨8, [5, 23, 24], ps76_8, os76_8, L76_8⟩]
theorem s76_2 : ∀ k x y, L76_2 (k + 1) x y = roundJ Try.prog (tableJ (T76)) (Lof 0 k (cuts76)) 2 body76 (endJ Try.prog 0 [.tmp 6] alts76) (stAt [1, 3, 5, 10, 11, 12] ps76_2 os76_2 x y) := by
  rintro k ⟨a1, ⟨⟨⟩, ⟨⟨⟩, ⟨a2, ⟨a3, ⟨a4, ⟨⟩⟩⟩⟩⟩⟩⟩ ⟨⟨a5, ⟨a6, ⟨⟩⟩⟩, ⟨⟨a7, ⟨⟩⟩, ⟨⟩⟩⟩; kernel_rfl
theorem s76_8 : ∀ k x y, L76_8 (k + 1) x y = roundJ Try.prog (tableJ (T76)) (Lof 0 k (cuts76)) 8 body76 (endJ Try.prog 0 [.tmp 6] alts76) (stAt [5, 23, 24] ps76_8 os76_8 x y) := by
  rintro k ⟨⟨⟩, ⟨a1, ⟨a2, ⟨⟩⟩⟩⟩ ⟨⟨a3, ⟨⟩⟩, ⟨⟩⟩; kernel_rfl
theorem e76 (k : Nat) : ∀ x y, F76 k x y = codeJ Try.prog (tableJ (T76)) (Lof 0 k (cuts76)) body76 (st0 pin76 os76 x y) (endJ Try.prog 0 [.tmp 6] alts76) := by
  rintro ⟨⟨a1, ⟨a2, ⟨⟩⟩⟩, ⟨a3, ⟨a4, ⟨⟩⟩⟩⟩ ⟨⟩; kernel_rfl
theorem k76 (k : Nat) : FnOK Try.prog 76 pin76 os76 alts76 (F76 k) :=
  fn_ok (fn := Try.f76) (body := body76) (cuts := cuts76) (k := k) (C := tableJ (T76)) (C' := tableJ (T76)) (table_ok _) (table_nat _) (table_ok _) mixed (by kernel_rfl) (by kernel_rfl) (by decide) (by kernel_rfl) (fun x => Nat.le_of_ble_eq_true (by kernel_rfl))
    (List.forall_mem_cons.2 ⟨fun x y => rfl, List.forall_mem_cons.2 ⟨fun x y => rfl, fun c h => by cases h⟩⟩) (List.forall_mem_cons.2 ⟨s76_2, List.forall_mem_cons.2 ⟨s76_8, fun c h => by cases h⟩⟩) (e76 k)
noncomputable def E76 (k : Nat) : Entry Try.prog := ⟨76, pin76, os76, alts76, F76 k, k76 k, rfl⟩
/-! 68 metric.Branch -/
abbrev pin68 : VPL := (.cons (.agg (.cons (.int .i64) (.cons (.arr .i64 32) .nil))) (.cons (.int .i64) (.cons (.lst false (.one (.int .u8))) (.cons (.arr .u8 3) .nil))))
abbrev os68 : List OP := []
abbrev alts68 : List Alt := [(.tup (.cons (.int .i64) (.cons (.int .i64) .nil)), [])]
abbrev ps68_15 : VPL := (.cons (.ptr 0 0) (.cons (.ptr 1 0) (.cons (.int .i64) (.cons (.lst false (.one (.int .u8))) (.cons (.int .i64) (.cons (.int .i64) .nil))))))
abbrev os68_15 : List OP := [.box (.cons (.int .i64) (.cons (.arr .i64 32) .nil)) true, .box (.cons (.arr .u8 3) .nil) true]
noncomputable def body68 : Code := match Try.f68.body with
  | some c => c
  | none => .skip
def L68_15 (K : Nat) : Nat → ps68_15.T → OPL.T os68_15 → Option (AT alts68)
  | 0, _, _ => none
  | k + 1, ((), ((), (a1, (a2, (a3, (a4, ())))))), ((a5, (a6, ())), ((a7, ()), ())) =>
    if decide (a4 < a3) = true then
      if (0 : Int) ≤ a4 ∧ a4 < (↑(List.length a2) : Int) then
        if (0 : Int) ≤ a4 ∧ a4 < (3 : Int) then
          if Int.toNat a4 * (1 : Nat) < (3 : Nat) then
            if
                (0 : Int) ≤ List.getD a7 (Int.toNat a4 * (1 : Nat)) (0 : Int) ∧
                  List.getD a7 (Int.toNat a4 * (1 : Nat)) (0 : Int) < (2 : Int) then
              if (0 : Int) ≤ List.getD a2 (Int.toNat a4) (0 : Int) ∧ List.getD a2 (Int.toNat a4) (0 : Int) < (16 : Int) then
                if
                    Int.toNat (List.getD a7 (Int.toNat a4 * (1 : Nat)) (0 : Int)) * (16 : Nat) +
                        Int.toNat (List.getD a2 (Int.toNat a4) (0 : Int)) * (1 : Nat) <
                      (32 : Nat) then
                  (L68_15 K) k
                    ((), (),
                      IntKind.wrap IntKind.i64
                        (a1 +
                          List.getD a6
                            (Int.toNat (List.getD a7 (Int.toNat a4 * (1 : Nat)) (0 : Int)) * (16 : Nat) +
                              Int.toNat (List.getD a2 (Int.toNat a4) (0 : Int)) * (1 : Nat))
                            (0 : Int)),
                      a2, a3, IntKind.wrap IntKind.i64 (a4 + (1 : Int)), ())
                    ((a5, a6, ()), (a7, ()), ())
                else none
              else none
            else none
          else none
        else none
      else none
    else some ((a1, (0 : Int), ()), ())
def F68 (k : Nat) : pin68.T → OPL.T os68 → Option (AT alts68)
  | ((a1, (a2, ())), (a3, (a4, (a5, ())))), () =>
    Option.bind ((F49 k) ((a1, a2, ()), ()) ()) fun val =>
      if (!decide (val.1 = (0 : Int))) = true then some (((0 : Int), val.1, ()), ())
      else
        if (!decide (a3 = (2 : Int))) = true then
          if (!decide (a3 = (3 : Int))) = true then some (((0 : Int), (1 : Int), ()), ())
          else
            if (!decide ((↑(List.length a4) : Int) = a3)) = true then some (((0 : Int), (5 : Int), ()), ())
            else
              Option.bind ((F76 k) ((a1, a2, ()), a4, a5, ()) ()) fun val =>
                if decide (val.1 = (0 : Int)) = true then some (((0 : Int), (91 : Int), ()), ())
                else
                  if decide (val.1 = (1 : Int)) = true then some (((0 : Int), (10 : Int), ()), ())
                  else (L68_15 k) k ((), (), (0 : Int), a4, (↑(List.length a4) : Int), (0 : Int), ()) ((a1, a2, ()), (a5, ()), ())
        else
          if (!decide ((↑(List.length a4) : Int) = a3)) = true then some (((0 : Int), (5 : Int), ()), ())
          else
            Option.bind ((F76 k) ((a1, a2, ()), a4, a5, ()) ()) fun val =>
              if decide (val.1 = (0 : Int)) = true then some (((0 : Int), (91 : Int), ()), ())
              else
                if decide (val.1 = (1 : Int)) = true then some (((0 : Int), (10 : Int), ()), ())
                else (L68_15 k) k ((), (), (0 : Int), a4, (↑(List.length a4) : Int), (0 : Int), ()) ((a1, a2, ()), (a5, ()), ())
noncomputable def T68 (K : Nat) : List (Entry Try.prog) := [E49 K, E76 K]
noncomputable def cuts68 (K : Nat) : List (Cut (AT alts68)) := [⟨15, [4, 7, 11, 40, 41, 42], ps68_15, os68_15, L68_15 K⟩]
theorem s68_15 (K : Nat) : ∀ k x y, L68_15 K (k + 1) x y = roundJ Try.prog (tableJ (T68 K)) (Lof 0 k (cuts68 K)) 15 body68 (endJ Try.prog 0 [.tmp 8, .tmp 9] alts68) (stAt [4, 7, 11, 40, 41, 42] ps68_15 os68_15 x y) := by
  rintro k ⟨⟨⟩, ⟨⟨⟩, ⟨a1, ⟨a2, ⟨a3, ⟨a4, ⟨⟩⟩⟩⟩⟩⟩⟩ ⟨⟨a5, ⟨a6, ⟨⟩⟩⟩, ⟨⟨a7, ⟨⟩⟩, ⟨⟩⟩⟩; kernel_rfl
theorem e68 (k : Nat) : ∀ x y, F68 k x y = codeJ Try.prog (tableJ (T68 k)) (Lof 0 k (cuts68 k)) body68 (st0 pin68 os68 x y) (endJ Try.prog 0 [.tmp 8, .tmp 9] alts68) := by
  rintro ⟨⟨a1, ⟨a2, ⟨⟩⟩⟩, ⟨a3, ⟨a4, ⟨a5, ⟨⟩⟩⟩⟩⟩ ⟨⟩; kernel_rfl
theorem k68 (k : Nat) : FnOK Try.prog 68 pin68 os68 alts68 (F68 k) :=
  fn_ok (fn := Try.f68) (body := body68) (cuts := cuts68 k) (k := k) (C := tableJ (T68 k)) (C' := tableJ (T68 k)) (table_ok _) (table_nat _) (table_ok _) mixed (by kernel_rfl) (by kernel_rfl) (by decide) (by kernel_rfl) (fun x => Nat.le_of_ble_eq_true (by kernel_rfl))
    (List.forall_mem_cons.2 ⟨fun x y => rfl, fun c h => by cases h⟩) (List.forall_mem_cons.2 ⟨s68_15 k, fun c h => by cases h⟩) (e68 k)
noncomputable def E68 (k : Nat) : Entry Try.prog := ⟨68, pin68, os68, alts68, F68 k, k68 k, rfl⟩
/-! 67 prefixes$1 -/
abbrev pin67 : VPL := (.cons (.int .i64) (.cons (.arr .u8 3) (.cons (.ptr 0 0) (.cons (.ptr 2 0) .nil))))
abbrev os67 : List OP := [.box (.cons (.int .i64) (.cons (.int .i64) (.cons (.arr .u32 3) (.cons (.int .i64) (.cons (.arr .i64 32) (.cons (.int .i64) (.cons (.full 1) .nil))))))) false, .row (.one (.int .u8)) false, .box (.cons (.int .i64) .nil) false]
abbrev alts67 : List Alt := [(.int .i64, [.box (.cons (.int .i64) (.cons (.int .i64) (.cons (.arr .u32 3) (.cons (.int .i64) (.cons (.arr .i64 32) (.cons (.int .i64) (.cons (.full 1) .nil))))))) false, .row (.one (.int .u8)) false, .box (.cons (.int .i64) .nil) false])]
noncomputable def body67 : Code := match Try.f67.body with
  | some c => c
  | none => .skip
def F67 (k : Nat) : pin67.T → OPL.T os67 → Option (AT alts67)
  | (a1, (a2, ((), ((), ())))), ((a3, (a4, (a5, (a6, (a7, (a8, ((), ()))))))), (a9, ((a10, ()), ()))) =>
    if
        (0 : Int) ≤ IntKind.wrap IntKind.i64 (IntKind.wrap IntKind.i64 (a1 + (1 : Int)) * a10) ∧
          IntKind.wrap IntKind.i64 (IntKind.wrap IntKind.i64 (a1 + (1 : Int)) * a10) ≤ (↑(List.length a9) : Int) then
      if
          (0 : Int) ≤ IntKind.wrap IntKind.i64 (a1 * a10) ∧
            IntKind.wrap IntKind.i64 (a1 * a10) ≤
              IntKind.wrap IntKind.i64 (IntKind.wrap IntKind.i64 (a1 + (1 : Int)) * a10) then
        Option.bind
          ((F68 k)
            ((a6, a7, ()), a10,
              List.take
                (Int.toNat (IntKind.wrap IntKind.i64 (IntKind.wrap IntKind.i64 (a1 + (1 : Int)) * a10)) -
                  Int.toNat (IntKind.wrap IntKind.i64 (a1 * a10)))
                (List.drop (Int.toNat (IntKind.wrap IntKind.i64 (a1 * a10))) a9),
              a2, ())
            ())
          fun val => some ((Prod.fst val).1, (a3, a4, a5, a6, a7, a8, (), ()), a9, (a10, ()), ())
      else none
    else none
noncomputable def T67 (K : Nat) : List (Entry Try.prog) := [E68 K]
noncomputable def cuts67 (K : Nat) : List (Cut (AT alts67)) := []
theorem e67 (k : Nat) : ∀ x y, F67 k x y = codeJ Try.prog (tableJ (T67 k)) (Lof 3 k (cuts67 k)) body67 (st0 pin67 os67 x y) (endJ Try.prog 3 [.tmp 6] alts67) := by
  rintro ⟨a1, ⟨a2, ⟨⟨⟩, ⟨⟨⟩, ⟨⟩⟩⟩⟩⟩ ⟨⟨a3, ⟨a4, ⟨a5, ⟨a6, ⟨a7, ⟨a8, ⟨⟨⟩, ⟨⟩⟩⟩⟩⟩⟩⟩⟩, ⟨a9, ⟨⟨a10, ⟨⟩⟩, ⟨⟩⟩⟩⟩; kernel_rfl
theorem k67 (k : Nat) : FnOK Try.prog 67 pin67 os67 alts67 (F67 k) :=
  fn_ok (fn := Try.f67) (body := body67) (cuts := cuts67 k) (k := k) (C := tableJ (T67 k)) (C' := tableJ (T67 k)) (table_ok _) (table_nat _) (table_ok _) mixed (by kernel_rfl) (by kernel_rfl) (by decide) (by kernel_rfl) (fun x => Nat.le_of_ble_eq_true (by kernel_rfl))
    (fun c h => by cases h) (fun c h => by cases h) (e67 k)
noncomputable def E67 (k : Nat) : Entry Try.prog := ⟨67, pin67, os67, alts67, F67 k, k67 k, rfl⟩
/-! 55 prefixes -/
abbrev pin55 : VPL := (.cons (.agg (.cons (.int .i64) (.cons (.int .i64) (.cons (.arr .u32 3) (.cons (.int .i64) (.cons (.arr .i64 32) (.cons (.int .i64) (.cons (.full 0) .nil)))))))) (.cons (.lst true (.one (.int .u8))) .nil))
abbrev os55 : List OP := [.row (.one (.int .u8)) false]
abbrev alts55 : List Alt := [(.fn 69 (.cons (.ptr 1 0) (.cons (.ptr 2 0) (.cons (.ptr 3 0) .nil))), [.row (.one (.int .u8)) false, .box (.cons (.int .i64) (.cons (.int .i64) (.cons (.arr .u32 3) (.cons (.int .i64) (.cons (.arr .i64 32) (.cons (.int .i64) (.cons (.full 0) .nil))))))) true, .box (.cons (.lst true (.one (.int .u8))) .nil) true, .box (.cons (.fn 67 (.cons (.ptr 1 0) (.cons (.ptr 4 0) .nil))) .nil) true, .box (.cons (.int .i64) .nil) true])]
noncomputable def body55 : Code := match Try.f55.body with
  | some c => c
  | none => .skip
def F55 : pin55.T → OPL.T os55 → Option (AT alts55)
  | ((a1, (a2, (a3, (a4, (a5, (a6, ((), ()))))))), (a7, ())), (a8, ()) =>
    some (((), (), (), ()), a8, (a1, a2, a3, a4, a5, a6, (), ()), (a7, ()), (((), (), ()), ()), (a2, ()), ())
noncomputable def T55 : List (Entry Try.prog) := []
noncomputable def cuts55 : List (Cut (AT alts55)) := []
theorem e55 : ∀ x y, F55 x y = codeJ Try.prog (tableJ (T55)) (Lof 1 0 (cuts55)) body55 (st0 pin55 os55 x y) (endJ Try.prog 1 [.tmp 4] alts55) := by
  rintro ⟨⟨a1, ⟨a2, ⟨a3, ⟨a4, ⟨a5, ⟨a6, ⟨⟨⟩, ⟨⟩⟩⟩⟩⟩⟩⟩⟩, ⟨a7, ⟨⟩⟩⟩ ⟨a8, ⟨⟩⟩; kernel_rfl
theorem k55 : FnOK Try.prog 55 pin55 os55 alts55 (F55) :=
  fn_ok (fn := Try.f55) (body := body55) (cuts := cuts55) (k := 0) (C := tableJ (T55)) (C' := tableJ (T55)) (table_ok _) (table_nat _) (table_ok _) mixed (by kernel_rfl) (by kernel_rfl) (by decide) (by kernel_rfl) (fun x => Nat.le_of_ble_eq_true (by kernel_rfl))
    (fun c h => by cases h) (fun c h => by cases h) (e55)
noncomputable def E55 : Entry Try.prog := ⟨55, pin55, os55, alts55, F55, k55, rfl⟩
/-! 70 path -/
abbrev pin70 : VPL := (.cons (.agg (.cons (.int .i64) (.cons (.int .i64) (.cons (.arr .u32 3) (.cons (.int .i64) (.cons (.arr .i64 32) (.cons (.int .i64) (.cons (.full 0) .nil)))))))) (.cons (.lst true (.one (.int .u8))) .nil))
abbrev os70 : List OP := [.row (.one (.int .u8)) false]
abbrev alts70 : List Alt := [(.fn 77 (.cons (.ptr 1 0) (.cons (.ptr 2 0) .nil)), [.row (.one (.int .u8)) false, .box (.cons (.int .i64) (.cons (.int .i64) (.cons (.arr .u32 3) (.cons (.int .i64) (.cons (.arr .i64 32) (.cons (.int .i64) (.cons (.full 0) .nil))))))) true, .box (.cons (.lst true (.one (.int .u8))) .nil) true])]
noncomputable def body70 : Code := match Try.f70.body with
  | some c => c
  | none => .skip
def F70 : pin70.T → OPL.T os70 → Option (AT alts70)
  | ((a1, (a2, (a3, (a4, (a5, (a6, ((), ()))))))), (a7, ())), (a8, ()) =>
    some (((), (), ()), a8, (a1, a2, a3, a4, a5, a6, (), ()), (a7, ()), ())
noncomputable def T70 : List (Entry Try.prog) := []
noncomputable def cuts70 : List (Cut (AT alts70)) := []
theorem e70 : ∀ x y, F70 x y = codeJ Try.prog (tableJ (T70)) (Lof 1 0 (cuts70)) body70 (st0 pin70 os70 x y) (endJ Try.prog 1 [.tmp 4] alts70) := by
  rintro ⟨⟨a1, ⟨a2, ⟨a3, ⟨a4, ⟨a5, ⟨a6, ⟨⟨⟩, ⟨⟩⟩⟩⟩⟩⟩⟩⟩, ⟨a7, ⟨⟩⟩⟩ ⟨a8, ⟨⟩⟩; kernel_rfl
theorem k70 : FnOK Try.prog 70 pin70 os70 alts70 (F70) :=
  fn_ok (fn := Try.f70) (body := body70) (cuts := cuts70) (k := 0) (C := tableJ (T70)) (C' := tableJ (T70)) (table_ok _) (table_nat _) (table_ok _) mixed (by kernel_rfl) (by kernel_rfl) (by decide) (by kernel_rfl) (fun x => Nat.le_of_ble_eq_true (by kernel_rfl))
    (fun c h => by cases h) (fun c h => by cases h) (e70)
noncomputable def E70 : Entry Try.prog := ⟨70, pin70, os70, alts70, F70, k70, rfl⟩
/-! 54 both -/
abbrev pin54 : VPL := (.cons (.agg (.cons (.int .i64) (.cons (.int .i64) (.cons (.arr .u32 3) (.cons (.int .i64) (.cons (.arr .i64 32) (.cons (.int .i64) (.cons (.lst false (.one (.int .u8))) .nil)))))))) (.cons (.lst false (.one (.int .u8))) .nil))
abbrev os54 : List OP := []
abbrev alts54 : List Alt := [(.int .i64, [])]
abbrev ps54_5 : VPL := (.cons (.lst false (.one (.int .u8))) (.cons (.ptr 0 0) (.cons (.lst false (.one (.int .u8))) (.cons (.int .i64) (.cons (.int .i64) .nil)))))
abbrev os54_5 : List OP := [.box (.cons (.int .i64) (.cons (.int .i64) (.cons (.arr .u32 3) (.cons (.int .i64) (.cons (.arr .i64 32) (.cons (.int .i64) (.cons (.lst false (.one (.int .u8))) .nil))))))) true]
noncomputable def body54 : Code := match Try.f54.body with
  | some c => c
  | none => .skip
def L54_5 (K : Nat) : Nat → ps54_5.T → OPL.T os54_5 → Option (AT alts54)
  | 0, _, _ => none
  | k + 1, (a1, ((), (a2, (a3, (a4, ()))))), ((a5, (a6, (a7, (a8, (a9, (a10, (a11, ()))))))), ()) =>
    if decide (a4 < a3) = true then
      if (0 : Int) ≤ a4 ∧ a4 < (↑(List.length a2) : Int) then
        if decide ((1 : Int) < List.getD a2 (Int.toNat a4) (0 : Int)) = true then some ((10 : Int), ())
        else (L54_5 K) k (a1, (), a2, a3, IntKind.wrap IntKind.i64 (a4 + (1 : Int)), ()) ((a5, a6, a7, a8, a9, a10, a11, ()), ())
      else none
    else if (!decide ((↑(List.length a1) : Int) = a10)) = true then some ((5 : Int), ()) else some ((0 : Int), ())
def F54 (k : Nat) : pin54.T → OPL.T os54 → Option (AT alts54)
  | ((a1, (a2, (a3, (a4, (a5, (a6, (a7, ()))))))), (a8, ())), () =>
    Option.bind ((F36 k) ((a1, a2, a3, a4, a5, a6, a7, ()), ()) ()) fun val =>
      if (!decide (val.1 = (0 : Int))) = true then some (val.1, ())
      else (L54_5 k) k (a8, (), a8, (↑(List.length a8) : Int), (0 : Int), ()) ((a1, a2, a3, a4, a5, a6, a7, ()), ())
noncomputable def T54 (K : Nat) : List (Entry Try.prog) := [E36 K]
noncomputable def cuts54 (K : Nat) : List (Cut (AT alts54)) := [⟨5, [1, 2, 13, 14, 15], ps54_5, os54_5, L54_5 K⟩]
theorem s54_5 (K : Nat) : ∀ k x y, L54_5 K (k + 1) x y = roundJ Try.prog (tableJ (T54 K)) (Lof 0 k (cuts54 K)) 5 body54 (endJ Try.prog 0 [.tmp 4] alts54) (stAt [1, 2, 13, 14, 15] ps54_5 os54_5 x y) := by
  rintro k ⟨a1, ⟨⟨⟩, ⟨a2, ⟨a3, ⟨a4, ⟨⟩⟩⟩⟩⟩⟩ ⟨⟨a5, ⟨a6, ⟨a7, ⟨a8, ⟨a9, ⟨a10, ⟨a11, ⟨⟩⟩⟩⟩⟩⟩⟩⟩, ⟨⟩⟩; kernel_rfl
theorem e54 (k : Nat) : ∀ x y, F54 k x y = codeJ Try.prog (tableJ (T54 k)) (Lof 0 k (cuts54 k)) body54 (st0 pin54 os54 x y) (endJ Try.prog 0 [.tmp 4] alts54) := by
  rintro ⟨⟨a1, ⟨a2, ⟨a3, ⟨a4, ⟨a5, ⟨a6, ⟨a7, ⟨⟩⟩⟩⟩⟩⟩⟩⟩, ⟨a8, ⟨⟩⟩⟩ ⟨⟩; kernel_rfl
theorem k54 (k : Nat) : FnOK Try.prog 54 pin54 os54 alts54 (F54 k) :=
  fn_ok (fn := Try.f54) (body := body54) (cuts := cuts54 k) (k := k) (C := tableJ (T54 k)) (C' := tableJ (T54 k)) (table_ok _) (table_nat _) (table_ok _) mixed (by kernel_rfl) (by kernel_rfl) (by decide) (by kernel_rfl) (fun x => Nat.le_of_ble_eq_true (by kernel_rfl))
    (List.forall_mem_cons.2 ⟨fun x y => rfl, fun c h => by cases h⟩) (List.forall_mem_cons.2 ⟨s54_5 k, fun c h => by cases h⟩) (e54 k)
noncomputable def E54 (k : Nat) : Entry Try.prog := ⟨54, pin54, os54, alts54, F54 k, k54 k, rfl⟩
/-! 38 Prefixes -/
abbrev pin38 : VPL := (.cons (.agg (.cons (.int .i64) (.cons (.int .i64) (.cons (.arr .u32 3) (.cons (.int .i64) (.cons (.arr .i64 32) (.cons (.int .i64) (.cons (.full 0) .nil)))))))) (.cons (.lst true (.one (.int .u8))) .nil))
abbrev os38 : List OP := [.row (.one (.int .u8)) false]
abbrev alts38 : List Alt := [(.tup (.cons (.full 1) (.cons (.int .i64) .nil)), [.row (.one (.int .u8)) false, .row (.one (.int .i64)) true])]
abbrev ps38_8007002a : VPL := (.cons (.fn 1000000000 (.cons (.ptr 16 0) .nil)) (.cons (.ptr 12 0) (.cons (.ptr 13 0) (.cons (.int .u32) (.cons (.int .i64) (.cons (.int .i64) (.cons (.ptr 5 0) (.cons (.ptr 8 0) (.cons (.ptr 9 0) (.cons (.ptr 2 0) .nil))))))))))
abbrev os38_8007002a : List OP := [.row (.one (.int .u8)) false, .gone, .box (.cons (.full 11) .nil) true, .box (.cons (.int .i64) (.cons (.int .i64) (.cons (.arr .u32 3) (.cons (.int .i64) (.cons (.arr .i64 32) (.cons (.int .i64) (.cons (.full 0) .nil))))))) true, .gone, .box (.cons (.fn 67 (.cons (.ptr 3 0) (.cons (.ptr 6 0) .nil))) .nil) true, .box (.cons (.int .i64) .nil) true, .box .nil true, .box (.cons (.fn 1000000000 (.cons (.ptr 7 0) .nil)) .nil) true, .box (.cons (.int .i64) .nil) true, .gone, .row (.one (.int .i64)) true, .box (.cons (.int .i64) (.cons (.int .i64) (.cons (.arr .u32 3) (.cons (.int .i64) (.cons (.arr .i64 32) (.cons (.int .i64) (.cons (.full 0) .nil))))))) true, .box (.cons (.lst true (.one (.int .u8))) .nil) true, .gone, .gone, .box .nil true]
abbrev ps38_8007002b : VPL := (.cons (.fn 1000000000 (.cons (.ptr 16 0) .nil)) (.cons (.ptr 12 0) (.cons (.ptr 13 0) (.cons (.int .u32) (.cons (.int .i64) (.cons (.int .i64) (.cons (.ptr 5 0) (.cons (.ptr 8 0) (.cons (.ptr 9 0) (.cons (.ptr 2 0) .nil))))))))))
abbrev os38_8007002b : List OP := [.row (.one (.int .u8)) false, .gone, .box (.cons (.full 17) .nil) true, .box (.cons (.int .i64) (.cons (.int .i64) (.cons (.arr .u32 3) (.cons (.int .i64) (.cons (.arr .i64 32) (.cons (.int .i64) (.cons (.full 0) .nil))))))) true, .gone, .box (.cons (.fn 67 (.cons (.ptr 3 0) (.cons (.ptr 6 0) .nil))) .nil) true, .box (.cons (.int .i64) .nil) true, .box .nil true, .box (.cons (.fn 1000000000 (.cons (.ptr 7 0) .nil)) .nil) true, .box (.cons (.int .i64) .nil) true, .gone, .gone, .box (.cons (.int .i64) (.cons (.int .i64) (.cons (.arr .u32 3) (.cons (.int .i64) (.cons (.arr .i64 32) (.cons (.int .i64) (.cons (.full 0) .nil))))))) true, .box (.cons (.lst true (.one (.int .u8))) .nil) true, .gone, .gone, .box .nil true, .row (.one (.int .i64)) true]
noncomputable def body38 : Code := match Try.f38.body with
  | some c => c
  | none => .skip
noncomputable def it38_7 : Code := match Try.f69.body with
  | some c => c
  | none => .skip
noncomputable def it38_8006 : Code := match Try.f77.body with
  | some c => c
  | none => .skip
def L38_8007002b (K : Nat) : Nat → ps38_8007002b.T → OPL.T os38_8007002b → Option (AT alts38)
  | 0, _, _ => none
  | k + 1, (((), ()), ((), ((), (a1, (a2, (a3, ((), ((), ((), ((), ())))))))))), (a4, ((), (((), ()), ((a5, (a6, (a7, (a8, (a9, (a10, ((), ()))))))), ((), ((((), ((), ())), ()), ((a11, ()), ((), ((((), ()), ()), ((a12, ()), ((), ((), ((a13, (a14, (a15, (a16, (a17, (a18, ((), ()))))))), ((a19, ()), ((), ((), ((), (a20, ())))))))))))))))))) =>
    if decide (a3 < a2) = true then
      if decide (a3 < a18) = true then
        if (0 : Int) ≤ a3 ∧ a3 < (↑(List.length a19) : Int) then
          Option.bind ((F78 K) ((a13, a14, a15, ()), a1, List.getD a19 (Int.toNat a3) (0 : Int), ()) ()) fun val =>
            Option.bind
              ((F67 K) (a3, (Prod.snd (Prod.fst val)).1, (), (), ()) ((a5, a6, a7, a8, a9, a10, (), ()), a4, (a11, ()), ()))
              fun val_1 =>
              if (List.length a20 + (1 : Nat)) * (8 : Nat) ≤ (140737488355328 : Nat) then
                (L38_8007002b K) k
                  (((), ()), (), (), (Prod.fst val).1, a2, IntKind.wrap IntKind.i64 (a3 + (1 : Int)), (), (), (), (), ())
                  (a4, (), ((), ()), (a5, a6, a7, a8, a9, a10, (), ()), (), (((), (), ()), ()), (a11, ()), (),
                    (((), ()), ()), (IntKind.wrap IntKind.i64 (a12 + val_1.1), ()), (), (),
                    (a13, a14, a15, a16, a17, a18, (), ()), (a19, ()), (), (), (),
                    a20 ++ [IntKind.wrap IntKind.i64 (a12 + val_1.1)], ())
              else none
        else none
      else
        Option.bind ((F78 K) ((a13, a14, a15, ()), a1, (0 : Int), ()) ()) fun val =>
          Option.bind
            ((F67 K) (a3, (Prod.snd (Prod.fst val)).1, (), (), ()) ((a5, a6, a7, a8, a9, a10, (), ()), a4, (a11, ()), ()))
            fun val_1 =>
            if (List.length a20 + (1 : Nat)) * (8 : Nat) ≤ (140737488355328 : Nat) then
              (L38_8007002b K) k
                (((), ()), (), (), (Prod.fst val).1, a2, IntKind.wrap IntKind.i64 (a3 + (1 : Int)), (), (), (), (), ())
                (a4, (), ((), ()), (a5, a6, a7, a8, a9, a10, (), ()), (), (((), (), ()), ()), (a11, ()), (), (((), ()), ()),
                  (IntKind.wrap IntKind.i64 (a12 + val_1.1), ()), (), (), (a13, a14, a15, a16, a17, a18, (), ()), (a19, ()),
                  (), (), (), a20 ++ [IntKind.wrap IntKind.i64 (a12 + val_1.1)], ())
            else none
    else some (((), (0 : Int), ()), a4, a20, ())
def L38_8007002a (K : Nat) : Nat → ps38_8007002a.T → OPL.T os38_8007002a → Option (AT alts38)
  | 0, _, _ => none
  | k + 1, (((), ()), ((), ((), (a1, (a2, (a3, ((), ((), ((), ((), ())))))))))), (a4, ((), (((), ()), ((a5, (a6, (a7, (a8, (a9, (a10, ((), ()))))))), ((), ((((), ((), ())), ()), ((a11, ()), ((), ((((), ()), ()), ((a12, ()), ((), (a13, ((a14, (a15, (a16, (a17, (a18, (a19, ((), ()))))))), ((a20, ()), ((), ((), ((), ()))))))))))))))))) =>
    if decide (a3 < a2) = true then
      if decide (a3 < a19) = true then
        if (0 : Int) ≤ a3 ∧ a3 < (↑(List.length a20) : Int) then
          Option.bind ((F78 K) ((a14, a15, a16, ()), a1, List.getD a20 (Int.toNat a3) (0 : Int), ()) ()) fun val =>
            Option.bind
              ((F67 K) (a3, (Prod.snd (Prod.fst val)).1, (), (), ()) ((a5, a6, a7, a8, a9, a10, (), ()), a4, (a11, ()), ()))
              fun val_1 =>
              if (List.length a13 + (1 : Nat)) * (8 : Nat) ≤ (140737488355328 : Nat) then
                (L38_8007002b K) k
                  (((), ()), (), (), (Prod.fst val).1, a2, IntKind.wrap IntKind.i64 (a3 + (1 : Int)), (), (), (), (), ())
                  (a4, (), ((), ()), (a5, a6, a7, a8, a9, a10, (), ()), (), (((), (), ()), ()), (a11, ()), (),
                    (((), ()), ()), (IntKind.wrap IntKind.i64 (a12 + val_1.1), ()), (), (),
                    (a14, a15, a16, a17, a18, a19, (), ()), (a20, ()), (), (), (),
                    a13 ++ [IntKind.wrap IntKind.i64 (a12 + val_1.1)], ())
              else none
        else none
      else
        Option.bind ((F78 K) ((a14, a15, a16, ()), a1, (0 : Int), ()) ()) fun val =>
          Option.bind
            ((F67 K) (a3, (Prod.snd (Prod.fst val)).1, (), (), ()) ((a5, a6, a7, a8, a9, a10, (), ()), a4, (a11, ()), ()))
            fun val_1 =>
            if (List.length a13 + (1 : Nat)) * (8 : Nat) ≤ (140737488355328 : Nat) then
              (L38_8007002b K) k
                (((), ()), (), (), (Prod.fst val).1, a2, IntKind.wrap IntKind.i64 (a3 + (1 : Int)), (), (), (), (), ())
                (a4, (), ((), ()), (a5, a6, a7, a8, a9, a10, (), ()), (), (((), (), ()), ()), (a11, ()), (), (((), ()), ()),
                  (IntKind.wrap IntKind.i64 (a12 + val_1.1), ()), (), (), (a14, a15, a16, a17, a18, a19, (), ()), (a20, ()),
                  (), (), (), a13 ++ [IntKind.wrap IntKind.i64 (a12 + val_1.1)], ())
            else none
    else some (((), (0 : Int), ()), a4, a13, ())
def F38 (k : Nat) : pin38.T → OPL.T os38 → Option (AT alts38)
  | ((a1, (a2, (a3, (a4, (a5, (a6, ((), ()))))))), (a7, ())), (a8, ()) =>
    Option.bind ((F54 k) ((a1, a2, a3, a4, a5, a6, a8, ()), a7, ()) ()) fun val =>
      if (!decide (val.1 = (0 : Int))) = true then some (((), val.1, ()), a8, [], ())
      else
        Option.bind (F55 ((a1, a2, a3, a4, a5, a6, (), ()), a7, ()) (a8, ())) fun val =>
          Option.bind
            (F70
              (((Prod.fst (Prod.snd (Prod.snd val))).1, (Prod.snd (Prod.fst (Prod.snd (Prod.snd val)))).1,
                  (Prod.snd (Prod.snd (Prod.fst (Prod.snd (Prod.snd val))))).1,
                  (Prod.snd (Prod.snd (Prod.snd (Prod.fst (Prod.snd (Prod.snd val)))))).1,
                  (Prod.snd (Prod.snd (Prod.snd (Prod.snd (Prod.fst (Prod.snd (Prod.snd val))))))).1,
                  (Prod.snd (Prod.snd (Prod.snd (Prod.snd (Prod.snd (Prod.fst (Prod.snd (Prod.snd val)))))))).1, (), ()),
                (Prod.fst (Prod.snd (Prod.snd (Prod.snd val)))).1, ())
              (a8, ()))
            fun val_1 =>
            Option.bind
              (F52
                (((Prod.fst (Prod.snd (Prod.snd val_1))).1, (Prod.snd (Prod.fst (Prod.snd (Prod.snd val_1)))).1,
                    (Prod.snd (Prod.snd (Prod.fst (Prod.snd (Prod.snd val_1))))).1,
                    (Prod.snd (Prod.snd (Prod.snd (Prod.fst (Prod.snd (Prod.snd val_1)))))).1,
                    (Prod.snd (Prod.snd (Prod.snd (Prod.snd (Prod.fst (Prod.snd (Prod.snd val_1))))))).1,
                    (Prod.snd (Prod.snd (Prod.snd (Prod.snd (Prod.snd (Prod.fst (Prod.snd (Prod.snd val_1)))))))).1, a8,
                    ()),
                  ())
                ())
              fun val_2 =>
              (L38_8007002a k) k (((), ()), (), (), (0 : Int), val_2.1, (0 : Int), (), (), (), (), ())
                (a8, (), ((), ()),
                  ((Prod.fst (Prod.snd (Prod.snd val))).1, (Prod.snd (Prod.fst (Prod.snd (Prod.snd val)))).1,
                    (Prod.snd (Prod.snd (Prod.fst (Prod.snd (Prod.snd val))))).1,
                    (Prod.snd (Prod.snd (Prod.snd (Prod.fst (Prod.snd (Prod.snd val)))))).1,
                    (Prod.snd (Prod.snd (Prod.snd (Prod.snd (Prod.fst (Prod.snd (Prod.snd val))))))).1,
                    (Prod.snd (Prod.snd (Prod.snd (Prod.snd (Prod.snd (Prod.fst (Prod.snd (Prod.snd val)))))))).1, (), ()),
                  (), (((), (), ()), ()), ((Prod.fst (Prod.snd (Prod.snd (Prod.snd (Prod.snd (Prod.snd val)))))).1, ()), (),
                  (((), ()), ()), ((0 : Int), ()), (), [(0 : Int)],
                  ((Prod.fst (Prod.snd (Prod.snd val_1))).1, (Prod.snd (Prod.fst (Prod.snd (Prod.snd val_1)))).1,
                    (Prod.snd (Prod.snd (Prod.fst (Prod.snd (Prod.snd val_1))))).1,
                    (Prod.snd (Prod.snd (Prod.snd (Prod.fst (Prod.snd (Prod.snd val_1)))))).1,
                    (Prod.snd (Prod.snd (Prod.snd (Prod.snd (Prod.fst (Prod.snd (Prod.snd val_1))))))).1,
                    (Prod.snd (Prod.snd (Prod.snd (Prod.snd (Prod.snd (Prod.fst (Prod.snd (Prod.snd val_1)))))))).1, (),
                    ()),
                  ((Prod.fst (Prod.snd (Prod.snd (Prod.snd val_1)))).1, ()), (), (), (), ())
noncomputable def T38 (K : Nat) : List (Entry Try.prog) := [E54 K, E55, E67 K, E70, E78 K, E52]
noncomputable def cuts38 (K : Nat) : List (CutY (AT alts38)) := [⟨8007002, 17, [0, 1, 2, 4, 11, 12, 42, 43, 44, 73], ps38_8007002a, os38_8007002a, L38_8007002a K⟩, ⟨8007002, 17, [0, 1, 2, 4, 11, 12, 42, 43, 44, 73], ps38_8007002b, os38_8007002b, L38_8007002b K⟩]
theorem s38_8007002a (K : Nat) : ∀ k x y, L38_8007002a K (k + 1) x y = roundY Try.prog (tableJ (T38 K)) 1 (LofY k (cuts38 K)) (Tof [(7, ⟨69, 7, 27, it38_7⟩), (8006, ⟨77, 16, 39, it38_8006⟩)]) 8007002 17 2 24 body38 (endY Try.prog 1 [.tmp 4, .tmp 5] alts38) (stAt [0, 1, 2, 4, 11, 12, 42, 43, 44, 73] ps38_8007002a os38_8007002a x y) := by
  rintro k ⟨⟨⟨⟩, ⟨⟩⟩, ⟨⟨⟩, ⟨⟨⟩, ⟨a1, ⟨a2, ⟨a3, ⟨⟨⟩, ⟨⟨⟩, ⟨⟨⟩, ⟨⟨⟩, ⟨⟩⟩⟩⟩⟩⟩⟩⟩⟩⟩⟩ ⟨a4, ⟨⟨⟩, ⟨⟨⟨⟩, ⟨⟩⟩, ⟨⟨a5, ⟨a6, ⟨a7, ⟨a8, ⟨a9, ⟨a10, ⟨⟨⟩, ⟨⟩⟩⟩⟩⟩⟩⟩⟩, ⟨⟨⟩, ⟨⟨⟨⟨⟩, ⟨⟨⟩, ⟨⟩⟩⟩, ⟨⟩⟩, ⟨⟨a11, ⟨⟩⟩, ⟨⟨⟩, ⟨⟨⟨⟨⟩, ⟨⟩⟩, ⟨⟩⟩, ⟨⟨a12, ⟨⟩⟩, ⟨⟨⟩, ⟨a13, ⟨⟨a14, ⟨a15, ⟨a16, ⟨a17, ⟨a18, ⟨a19, ⟨⟨⟩, ⟨⟩⟩⟩⟩⟩⟩⟩⟩, ⟨⟨a20, ⟨⟩⟩, ⟨⟨⟩, ⟨⟨⟩, ⟨⟨⟩, ⟨⟩⟩⟩⟩⟩⟩⟩⟩⟩⟩⟩⟩⟩⟩⟩⟩⟩⟩; kernel_rfl
theorem s38_8007002b (K : Nat) : ∀ k x y, L38_8007002b K (k + 1) x y = roundY Try.prog (tableJ (T38 K)) 1 (LofY k (cuts38 K)) (Tof [(7, ⟨69, 7, 27, it38_7⟩), (8006, ⟨77, 16, 39, it38_8006⟩)]) 8007002 17 2 24 body38 (endY Try.prog 1 [.tmp 4, .tmp 5] alts38) (stAt [0, 1, 2, 4, 11, 12, 42, 43, 44, 73] ps38_8007002b os38_8007002b x y) := by
  rintro k ⟨⟨⟨⟩, ⟨⟩⟩, ⟨⟨⟩, ⟨⟨⟩, ⟨a1, ⟨a2, ⟨a3, ⟨⟨⟩, ⟨⟨⟩, ⟨⟨⟩, ⟨⟨⟩, ⟨⟩⟩⟩⟩⟩⟩⟩⟩⟩⟩⟩ ⟨a4, ⟨⟨⟩, ⟨⟨⟨⟩, ⟨⟩⟩, ⟨⟨a5, ⟨a6, ⟨a7, ⟨a8, ⟨a9, ⟨a10, ⟨⟨⟩, ⟨⟩⟩⟩⟩⟩⟩⟩⟩, ⟨⟨⟩, ⟨⟨⟨⟨⟩, ⟨⟨⟩, ⟨⟩⟩⟩, ⟨⟩⟩, ⟨⟨a11, ⟨⟩⟩, ⟨⟨⟩, ⟨⟨⟨⟨⟩, ⟨⟩⟩, ⟨⟩⟩, ⟨⟨a12, ⟨⟩⟩, ⟨⟨⟩, ⟨⟨⟩, ⟨⟨a13, ⟨a14, ⟨a15, ⟨a16, ⟨a17, ⟨a18, ⟨⟨⟩, ⟨⟩⟩⟩⟩⟩⟩⟩⟩, ⟨⟨a19, ⟨⟩⟩, ⟨⟨⟩, ⟨⟨⟩, ⟨⟨⟩, ⟨a20, ⟨⟩⟩⟩⟩⟩⟩⟩⟩⟩⟩⟩⟩⟩⟩⟩⟩⟩⟩⟩; kernel_rfl
theorem e38 (k : Nat) : ∀ x y, F38 k x y = codeY Try.prog (tableJ (T38 k)) 1 (LofY k (cuts38 k)) (Tof [(7, ⟨69, 7, 27, it38_7⟩), (8006, ⟨77, 16, 39, it38_8006⟩)]) 2 none 0 24 0 body38 (st0 pin38 os38 x y) (endY Try.prog 1 [.tmp 4, .tmp 5] alts38) := by
  rintro ⟨⟨a1, ⟨a2, ⟨a3, ⟨a4, ⟨a5, ⟨a6, ⟨⟨⟩, ⟨⟩⟩⟩⟩⟩⟩⟩⟩, ⟨a7, ⟨⟩⟩⟩ ⟨a8, ⟨⟩⟩; kernel_rfl
theorem t38 : TOK Try.prog (Tof [(7, ⟨69, 7, 27, it38_7⟩), (8006, ⟨77, 16, 39, it38_8006⟩)]) := tof_cons (fn := Try.f69) ⟨by kernel_rfl, by kernel_rfl, by kernel_rfl, by kernel_rfl, by kernel_rfl, by decide⟩ (tof_cons (fn := Try.f77) ⟨by kernel_rfl, by kernel_rfl, by kernel_rfl, by kernel_rfl, by kernel_rfl, by decide⟩ (tof_nil))
theorem k38 (k : Nat) : FnOK Try.prog 38 pin38 os38 alts38 (F38 k) :=
  fnY_ok (fn := Try.f38) (body := body38) (cuts := cuts38 k) (k := k) (C := tableJ (T38 k)) (C' := tableJ (T38 k)) (table_ok _) (table_nat _) (table_ok _) mixed (by kernel_rfl) (by kernel_rfl) (by decide) (by kernel_rfl) (fun x => Nat.le_of_ble_eq_true (by kernel_rfl)) (d := 2) t38
    (List.forall_mem_cons.2 ⟨fun x y => rfl, List.forall_mem_cons.2 ⟨fun x y => rfl, fun c h => by cases h⟩⟩) (List.forall_mem_cons.2 ⟨s38_8007002a k, List.forall_mem_cons.2 ⟨s38_8007002b k, fun c h => by cases h⟩⟩) (e38 k)
noncomputable def E38 (k : Nat) : Entry Try.prog := ⟨38, pin38, os38, alts38, F38 k, k38 k, rfl⟩
/-! 59 encoder.New -/
abbrev pin59 : VPL := (.cons (.agg (.cons (.int .i64) (.cons (.int .i64) (.cons (.arr .u32 3) .nil)))) .nil)
abbrev os59 : List OP := []
abbrev alts59 : List Alt := [(.tup (.cons .nilp (.cons (.int .i64) .nil)), []), (.tup (.cons (.ptr 0 0) (.cons (.int .i64) .nil)), [.box (.cons (.int .i64) (.cons (.int .i64) (.cons (.arr .u32 3) (.cons (.int .u32) .nil)))) true])]
noncomputable def body59 : Code := match Try.f59.body with
  | some c => c
  | none => .skip
def F59 (k : Nat) : pin59.T → OPL.T os59 → Option (AT alts59)
  | ((a1, (a2, (a3, ()))), ()), () =>
    Option.bind ((F50 k) ((a1, a2, a3, ()), ()) ()) fun val =>
      if (!decide (val.1 = (0 : Int))) = true then some (Sum.inl (((), val.1, ()), ()))
      else some (Sum.inr (((), (0 : Int), ()), (a1, a2, a3, (0 : Int), ()), ()))
noncomputable def T59 (K : Nat) : List (Entry Try.prog) := [E50 K]
noncomputable def cuts59 (K : Nat) : List (Cut (AT alts59)) := []
theorem e59 (k : Nat) : ∀ x y, F59 k x y = codeJ Try.prog (tableJ (T59 k)) (Lof 0 k (cuts59 k)) body59 (st0 pin59 os59 x y) (endJ Try.prog 0 [.tmp 2, .tmp 3] alts59) := by
  rintro ⟨⟨a1, ⟨a2, ⟨a3, ⟨⟩⟩⟩⟩, ⟨⟩⟩ ⟨⟩; kernel_rfl
theorem k59 (k : Nat) : FnOK Try.prog 59 pin59 os59 alts59 (F59 k) :=
  fn_ok (fn := Try.f59) (body := body59) (cuts := cuts59 k) (k := k) (C := tableJ (T59 k)) (C' := tableJ (T59 k)) (table_ok _) (table_nat _) (table_ok _) mixed (by kernel_rfl) (by kernel_rfl) (by decide) (by kernel_rfl) (fun x => Nat.le_of_ble_eq_true (by kernel_rfl))
    (fun c h => by cases h) (fun c h => by cases h) (e59 k)
noncomputable def E59 (k : Nat) : Entry Try.prog := ⟨59, pin59, os59, alts59, F59 k, k59 k, rfl⟩
/-! 60 encoder.row -/
abbrev pin60 : VPL := (.cons (.lst false (.one (.int .u8))) .nil)
abbrev os60 : List OP := []
abbrev alts60 : List Alt := [(.bool, [])]
abbrev ps60_2 : VPL := (.cons (.lst false (.one (.int .u8))) (.cons (.int .i64) (.cons (.int .i64) .nil)))
abbrev os60_2 : List OP := []
noncomputable def body60 : Code := match Try.f60.body with
  | some c => c
  | none => .skip
def L60_2 : Nat → ps60_2.T → OPL.T os60_2 → Option (AT alts60)
  | 0, _, _ => none
  | k + 1, (a1, (a2, (a3, ()))), () =>
    if decide (a3 < a2) = true then
      if (0 : Int) ≤ a3 ∧ a3 < (↑(List.length a1) : Int) then
        if decide ((1 : Int) < List.getD a1 (Int.toNat a3) (0 : Int)) = true then some (false, ())
        else L60_2 k (a1, a2, IntKind.wrap IntKind.i64 (a3 + (1 : Int)), ()) ()
      else none
    else some (true, ())
def F60 (k : Nat) : pin60.T → OPL.T os60 → Option (AT alts60)
  | (a1, ()), () =>
    L60_2 k (a1, (↑(List.length a1) : Int), (0 : Int), ()) ()
noncomputable def T60 : List (Entry Try.prog) := []
noncomputable def cuts60 : List (Cut (AT alts60)) := [⟨2, [5, 6, 7], ps60_2, os60_2, L60_2⟩]
theorem s60_2 : ∀ k x y, L60_2 (k + 1) x y = roundJ Try.prog (tableJ (T60)) (Lof 0 k (cuts60)) 2 body60 (endJ Try.prog 0 [.tmp 2] alts60) (stAt [5, 6, 7] ps60_2 os60_2 x y) := by
  rintro k ⟨a1, ⟨a2, ⟨a3, ⟨⟩⟩⟩⟩ ⟨⟩; kernel_rfl
theorem e60 (k : Nat) : ∀ x y, F60 k x y = codeJ Try.prog (tableJ (T60)) (Lof 0 k (cuts60)) body60 (st0 pin60 os60 x y) (endJ Try.prog 0 [.tmp 2] alts60) := by
  rintro ⟨a1, ⟨⟩⟩ ⟨⟩; kernel_rfl
theorem k60 (k : Nat) : FnOK Try.prog 60 pin60 os60 alts60 (F60 k) :=
  fn_ok (fn := Try.f60) (body := body60) (cuts := cuts60) (k := k) (C := tableJ (T60)) (C' := tableJ (T60)) (table_ok _) (table_nat _) (table_ok _) mixed (by kernel_rfl) (by kernel_rfl) (by decide) (by kernel_rfl) (fun x => Nat.le_of_ble_eq_true (by kernel_rfl))
    (List.forall_mem_cons.2 ⟨fun x y => rfl, fun c h => by cases h⟩) (List.forall_mem_cons.2 ⟨s60_2, fun c h => by cases h⟩) (e60 k)
noncomputable def E60 (k : Nat) : Entry Try.prog := ⟨60, pin60, os60, alts60, F60 k, k60 k, rfl⟩
/-! 62 push -/
abbrev pin62 : VPL := (.cons (.ptr 0 0) (.cons (.int .u8) .nil))
abbrev os62 : List OP := [.box (.cons (.int .i64) (.cons (.int .i64) (.cons (.arr .u32 3) (.cons (.int .u32) .nil)))) true]
abbrev alts62 : List Alt := [(.arr .u8 3, [.box (.cons (.int .i64) (.cons (.int .i64) (.cons (.arr .u32 3) (.cons (.int .u32) .nil)))) true])]
abbrev ps62_4 : VPL := (.cons (.ptr 0 0) (.cons (.ptr 1 0) (.cons (.int .u32) (.cons (.ptr 2 0) (.cons (.int .i64) (.cons (.int .i64) .nil))))))
abbrev os62_4 : List OP := [.box (.cons (.int .i64) (.cons (.int .i64) (.cons (.arr .u32 3) (.cons (.int .u32) .nil)))) true, .box (.cons (.arr .u8 3) .nil) true, .box (.cons (.arr .u8 3) .nil) true]
noncomputable def body62 : Code := match Try.f62.body with
  | some c => c
  | none => .skip
def L62_4 : Nat → ps62_4.T → OPL.T os62_4 → Option (AT alts62)
  | 0, _, _ => none
  | k + 1, ((), ((), (a1, ((), (a2, (a3, ())))))), ((a4, (a5, (a6, (a7, ())))), ((a8, ()), ((a9, ()), ()))) =>
    if decide (a3 < a2) = true then
      if (0 : Int) ≤ a3 ∧ a3 < (3 : Int) then
        if Int.toNat a3 * (1 : Nat) < (3 : Nat) then
          Option.bind
            (F72
              (IntKind.wrap IntKind.u32
                  (↑(BitVec.toNat
                        (BitVec.ofInt (32 : Nat) a1 &&&
                          BitVec.ofInt (32 : Nat) (List.getD a6 (Int.toNat a3 * (1 : Nat)) (0 : Int)))) :
                    Int),
                ())
              ())
            fun val =>
            if (0 : Int) ≤ a3 ∧ a3 < (3 : Int) then
              if Int.toNat a3 * (1 : Nat) < (3 : Nat) then
                L62_4 k ((), (), a1, (), a2, IntKind.wrap IntKind.i64 (a3 + (1 : Int)), ())
                  ((a4, a5, a6, a7, ()), (a8, ()),
                    (List.set a9 (Int.toNat a3 * (1 : Nat))
                        (IntKind.wrap IntKind.u8
                          (IntKind.wrap IntKind.i64
                            (↑(BitVec.toNat (BitVec.ofInt (64 : Nat) val.1 &&& BitVec.ofInt (64 : Nat) (1 : Int))) : Int))),
                      ()),
                    ())
              else none
            else none
        else none
      else none
    else
      if IntKind.wrap IntKind.i64 (a4 - (1 : Int)) < (0 : Int) then none
      else
        some
          (a9,
            (a4, a5, a6,
              IntKind.wrap IntKind.u32
                (↑(BitVec.toNat
                      (BitVec.ofInt (32 : Nat) a1 &&&
                        BitVec.ofInt (32 : Nat)
                          (IntKind.wrap IntKind.u32
                            (shl' IntKind.u32 (1 : Int) (IntKind.wrap IntKind.i64 (a4 - (1 : Int))) - (1 : Int))))) :
                  Int),
              ()),
            ())
def F62 (k : Nat) : pin62.T → OPL.T os62 → Option (AT alts62)
  | ((), (a1, ())), ((a2, (a3, (a4, (a5, ())))), ()) =>
    L62_4 k
      ((), (),
        IntKind.wrap IntKind.u32
          (↑(BitVec.toNat
                (BitVec.ofInt (32 : Nat) (shl' IntKind.u32 a5 (1 : Int)) |||
                  BitVec.ofInt (32 : Nat) (IntKind.wrap IntKind.u32 a1))) :
            Int),
        (), a3, (0 : Int), ())
      ((a2, a3, a4, a5, ()), (List.replicate (3 : Nat) (0 : Int), ()), (List.replicate (3 : Nat) (0 : Int), ()), ())
noncomputable def T62 : List (Entry Try.prog) := [E72]
noncomputable def cuts62 : List (Cut (AT alts62)) := [⟨4, [0, 4, 5, 6, 20, 21], ps62_4, os62_4, L62_4⟩]
theorem s62_4 : ∀ k x y, L62_4 (k + 1) x y = roundJ Try.prog (tableJ (T62)) (Lof 1 k (cuts62)) 4 body62 (endJ Try.prog 1 [.cell 4 111] alts62) (stAt [0, 4, 5, 6, 20, 21] ps62_4 os62_4 x y) := by
  rintro k ⟨⟨⟩, ⟨⟨⟩, ⟨a1, ⟨⟨⟩, ⟨a2, ⟨a3, ⟨⟩⟩⟩⟩⟩⟩⟩ ⟨⟨a4, ⟨a5, ⟨a6, ⟨a7, ⟨⟩⟩⟩⟩⟩, ⟨⟨a8, ⟨⟩⟩, ⟨⟨a9, ⟨⟩⟩, ⟨⟩⟩⟩⟩; kernel_rfl
theorem e62 (k : Nat) : ∀ x y, F62 k x y = codeJ Try.prog (tableJ (T62)) (Lof 1 k (cuts62)) body62 (st0 pin62 os62 x y) (endJ Try.prog 1 [.cell 4 111] alts62) := by
  rintro ⟨⟨⟩, ⟨a1, ⟨⟩⟩⟩ ⟨⟨a2, ⟨a3, ⟨a4, ⟨a5, ⟨⟩⟩⟩⟩⟩, ⟨⟩⟩; kernel_rfl
theorem k62 (k : Nat) : FnOK Try.prog 62 pin62 os62 alts62 (F62 k) :=
  fn_ok (fn := Try.f62) (body := body62) (cuts := cuts62) (k := k) (C := tableJ (T62)) (C' := tableJ (T62)) (table_ok _) (table_nat _) (table_ok _) mixed (by kernel_rfl) (by kernel_rfl) (by decide) (by kernel_rfl) (fun x => Nat.le_of_ble_eq_true (by kernel_rfl))
    (List.forall_mem_cons.2 ⟨fun x y => rfl, fun c h => by cases h⟩) (List.forall_mem_cons.2 ⟨s62_4, fun c h => by cases h⟩) (e62 k)
noncomputable def E62 (k : Nat) : Entry Try.prog := ⟨62, pin62, os62, alts62, F62 k, k62 k, rfl⟩
/-! 61 Encode$1 -/
abbrev pin61 : VPL := (.cons (.int .u8) (.cons (.ptr 0 0) (.cons (.ptr 2 0) (.cons (.ptr 4 0) .nil))))
abbrev os61 : List OP := [.box (.cons (.ptr 1 0) .nil) true, .box (.cons (.int .i64) (.cons (.int .i64) (.cons (.arr .u32 3) (.cons (.int .u32) .nil)))) true, .box (.cons (.full 3) .nil) true, .row (.one (.int .u8)) true, .box (.cons (.int .i64) (.cons (.int .i64) (.cons (.arr .u32 3) .nil))) true]
abbrev alts61 : List Alt := [(.tup .nil, [.box (.cons (.ptr 1 0) .nil) true, .box (.cons (.int .i64) (.cons (.int .i64) (.cons (.arr .u32 3) (.cons (.int .u32) .nil)))) true, .box (.cons (.full 5) .nil) true, .gone, .box (.cons (.int .i64) (.cons (.int .i64) (.cons (.arr .u32 3) .nil))) true, .row (.one (.int .u8)) true])]
noncomputable def body61 : Code := match Try.f61.body with
  | some c => c
  | none => .skip
def F61 (k : Nat) : pin61.T → OPL.T os61 → Option (AT alts61)
  | (a1, ((), ((), ((), ())))), (((), ()), ((a2, (a3, (a4, (a5, ())))), (((), ()), (a6, ((a7, (a8, (a9, ()))), ()))))) =>
    Option.bind ((F62 k) ((), a1, ()) ((a2, a3, a4, a5, ()), ())) fun val =>
      if (0 : Int) ≤ a8 ∧ a8 ≤ (3 : Int) then
        if (0 : Nat) + Int.toNat a8 ≤ (3 : Nat) then
          if
              (List.length a6 + List.length (List.take (Int.toNat a8) (List.drop (0 : Nat) val.1))) * (1 : Nat) ≤
                (140737488355328 : Nat) then
            some
              ((), ((), ()),
                ((Prod.fst (Prod.snd val)).1, (Prod.snd (Prod.fst (Prod.snd val))).1,
                  (Prod.snd (Prod.snd (Prod.fst (Prod.snd val)))).1,
                  (Prod.snd (Prod.snd (Prod.snd (Prod.fst (Prod.snd val))))).1, ()),
                ((), ()), (), (a7, a8, a9, ()), a6 ++ List.take (Int.toNat a8) (List.drop (0 : Nat) val.1), ())
          else none
        else none
      else none
noncomputable def T61 (K : Nat) : List (Entry Try.prog) := [E62 K]
noncomputable def cuts61 (K : Nat) : List (Cut (AT alts61)) := []
theorem e61 (k : Nat) : ∀ x y, F61 k x y = codeJ Try.prog (tableJ (T61 k)) (Lof 5 k (cuts61 k)) body61 (st0M pin61 os61 x y) (endJ Try.prog 5 [] alts61) := by
  rintro ⟨a1, ⟨⟨⟩, ⟨⟨⟩, ⟨⟨⟩, ⟨⟩⟩⟩⟩⟩ ⟨⟨⟨⟩, ⟨⟩⟩, ⟨⟨a2, ⟨a3, ⟨a4, ⟨a5, ⟨⟩⟩⟩⟩⟩, ⟨⟨⟨⟩, ⟨⟩⟩, ⟨a6, ⟨⟨a7, ⟨a8, ⟨a9, ⟨⟩⟩⟩⟩, ⟨⟩⟩⟩⟩⟩⟩; kernel_rfl
theorem k61 (k : Nat) : FnOK Try.prog 61 pin61 os61 alts61 (F61 k) :=
  fn_okM (fn := Try.f61) (body := body61) (cuts := cuts61 k) (k := k) (C := tableJ (T61 k)) (C' := tableJ (T61 k)) (table_ok _) (table_nat _) (table_ok _) mixed (by kernel_rfl) (by kernel_rfl) (by decide) (by kernel_rfl) (fun x => Nat.le_of_ble_eq_true (by kernel_rfl))
    (fun c h => by cases h) (fun c h => by cases h) (e61 k)
noncomputable def E61 (k : Nat) : Entry Try.prog := ⟨61, pin61, os61, alts61, F61 k, k61 k, rfl⟩
/-! 41 Encode -/
abbrev pin41 : VPL := (.cons (.agg (.cons (.int .i64) (.cons (.int .i64) (.cons (.arr .u32 3) .nil)))) (.cons (.lst false (.one (.int .u8))) .nil))
abbrev os41 : List OP := []
abbrev alts41 : List Alt := [(.tup (.cons (.full 0) (.cons (.int .i64) .nil)), [.row (.one (.int .u8)) true])]
abbrev ps41_9 : VPL := (.cons (.ptr 0 0) (.cons (.ptr 1 0) (.cons (.fn 61 (.cons (.ptr 3 0) (.cons (.ptr 1 0) (.cons (.ptr 0 0) .nil)))) (.cons (.lst false (.one (.int .u8))) (.cons (.int .i64) (.cons (.int .i64) .nil))))))
abbrev os41_9 : List OP := [.box (.cons (.int .i64) (.cons (.int .i64) (.cons (.arr .u32 3) .nil))) true, .box (.cons (.full 2) .nil) true, .row (.one (.int .u8)) true, .box (.cons (.ptr 4 0) .nil) true, .box (.cons (.int .i64) (.cons (.int .i64) (.cons (.arr .u32 3) (.cons (.int .u32) .nil)))) true]
abbrev ps41_14 : VPL := (.cons (.ptr 0 0) (.cons (.fn 61 (.cons (.ptr 2 0) (.cons (.ptr 0 0) (.cons (.ptr 4 0) .nil)))) (.cons (.int .i64) (.cons (.int .i64) .nil))))
abbrev os41_14 : List OP := [.box (.cons (.full 1) .nil) true, .row (.one (.int .u8)) true, .box (.cons (.ptr 3 0) .nil) true, .box (.cons (.int .i64) (.cons (.int .i64) (.cons (.arr .u32 3) (.cons (.int .u32) .nil)))) true, .box (.cons (.int .i64) (.cons (.int .i64) (.cons (.arr .u32 3) .nil))) true]
noncomputable def body41 : Code := match Try.f41.body with
  | some c => c
  | none => .skip
def L41_14 (K : Nat) : Nat → ps41_14.T → OPL.T os41_14 → Option (AT alts41)
  | 0, _, _ => none
  | k + 1, ((), (((), ((), ((), ()))), (a1, (a2, ())))), (((), ()), (a3, (((), ()), ((a4, (a5, (a6, (a7, ())))), ((a8, (a9, (a10, ()))), ()))))) =>
    if decide (a2 < a1) = true then
      Option.bind ((F61 K) ((0 : Int), (), (), (), ()) (((), ()), (a4, a5, a6, a7, ()), ((), ()), a3, (a8, a9, a10, ()), ()))
        fun val =>
        (L41_14 K) k ((), ((), (), (), ()), a1, IntKind.wrap IntKind.i64 (a2 + (1 : Int)), ())
          (((), ()), (Prod.snd (Prod.snd (Prod.snd (Prod.snd (Prod.snd (Prod.snd val)))))).1, ((), ()),
            ((Prod.fst (Prod.snd (Prod.snd val))).1, (Prod.snd (Prod.fst (Prod.snd (Prod.snd val)))).1,
              (Prod.snd (Prod.snd (Prod.fst (Prod.snd (Prod.snd val))))).1,
              (Prod.snd (Prod.snd (Prod.snd (Prod.fst (Prod.snd (Prod.snd val)))))).1, ()),
            ((Prod.fst (Prod.snd (Prod.snd (Prod.snd (Prod.snd (Prod.snd val)))))).1,
              (Prod.snd (Prod.fst (Prod.snd (Prod.snd (Prod.snd (Prod.snd (Prod.snd val))))))).1,
              (Prod.snd (Prod.snd (Prod.fst (Prod.snd (Prod.snd (Prod.snd (Prod.snd (Prod.snd val)))))))).1, ()),
            ())
    else some (((), (0 : Int), ()), a3, ())
def L41_9 (K : Nat) : Nat → ps41_9.T → OPL.T os41_9 → Option (AT alts41)
  | 0, _, _ => none
  | k + 1, ((), ((), (((), ((), ((), ()))), (a1, (a2, (a3, ())))))), ((a4, (a5, (a6, ()))), (((), ()), (a7, (((), ()), ((a8, (a9, (a10, (a11, ())))), ()))))) =>
    if decide (a3 < a2) = true then
      if (0 : Int) ≤ a3 ∧ a3 < (↑(List.length a1) : Int) then
        Option.bind
          ((F61 K) (List.getD a1 (Int.toNat a3) (0 : Int), (), (), (), ())
            (((), ()), (a8, a9, a10, a11, ()), ((), ()), a7, (a4, a5, a6, ()), ()))
          fun val =>
          (L41_9 K) k ((), (), ((), (), (), ()), a1, a2, IntKind.wrap IntKind.i64 (a3 + (1 : Int)), ())
            (((Prod.fst (Prod.snd (Prod.snd (Prod.snd (Prod.snd (Prod.snd val)))))).1,
                (Prod.snd (Prod.fst (Prod.snd (Prod.snd (Prod.snd (Prod.snd (Prod.snd val))))))).1,
                (Prod.snd (Prod.snd (Prod.fst (Prod.snd (Prod.snd (Prod.snd (Prod.snd (Prod.snd val)))))))).1, ()),
              ((), ()), (Prod.snd (Prod.snd (Prod.snd (Prod.snd (Prod.snd (Prod.snd val)))))).1, ((), ()),
              ((Prod.fst (Prod.snd (Prod.snd val))).1, (Prod.snd (Prod.fst (Prod.snd (Prod.snd val)))).1,
                (Prod.snd (Prod.snd (Prod.fst (Prod.snd (Prod.snd val))))).1,
                (Prod.snd (Prod.snd (Prod.snd (Prod.fst (Prod.snd (Prod.snd val)))))).1, ()),
              ())
      else none
    else
      (L41_14 K) k ((), ((), (), (), ()), IntKind.wrap IntKind.i64 (a4 - (1 : Int)), (0 : Int), ())
        (((), ()), a7, ((), ()), (a8, a9, a10, a11, ()), (a4, a5, a6, ()), ())
def F41 (k : Nat) : pin41.T → OPL.T os41 → Option (AT alts41)
  | ((a1, (a2, (a3, ()))), (a4, ())), () =>
    Option.bind ((F59 k) ((a1, a2, a3, ()), ()) ()) fun val =>
      Sum.elim
        (fun val =>
          if (!decide ((Prod.snd (Prod.fst val)).1 = (0 : Int))) = true then
            some (((), (Prod.snd (Prod.fst val)).1, ()), [], ())
          else
            Option.bind ((F60 k) (a4, ()) ()) fun val =>
              if (!val.1) = true then some (((), (10 : Int), ()), [], ())
              else
                if
                    (0 : Int) ≤ (0 : Int) ∧
                      (0 : Int) ≤
                          IntKind.wrap IntKind.i64
                            (IntKind.wrap IntKind.i64
                                (IntKind.wrap IntKind.i64 ((↑(List.length a4) : Int) + a1) - (1 : Int)) *
                              a2) ∧
                        IntKind.wrap IntKind.i64
                              (IntKind.wrap IntKind.i64
                                  (IntKind.wrap IntKind.i64 ((↑(List.length a4) : Int) + a1) - (1 : Int)) *
                                a2) *
                            (1 : Int) ≤
                          (140737488355328 : Int) then
                  none
                else none)
        (fun val =>
          if (!decide ((Prod.snd (Prod.fst val)).1 = (0 : Int))) = true then
            some (((), (Prod.snd (Prod.fst val)).1, ()), [], ())
          else
            Option.bind ((F60 k) (a4, ()) ()) fun val_1 =>
              if (!val_1.1) = true then some (((), (10 : Int), ()), [], ())
              else
                if
                    (0 : Int) ≤ (0 : Int) ∧
                      (0 : Int) ≤
                          IntKind.wrap IntKind.i64
                            (IntKind.wrap IntKind.i64
                                (IntKind.wrap IntKind.i64 ((↑(List.length a4) : Int) + a1) - (1 : Int)) *
                              a2) ∧
                        IntKind.wrap IntKind.i64
                              (IntKind.wrap IntKind.i64
                                  (IntKind.wrap IntKind.i64 ((↑(List.length a4) : Int) + a1) - (1 : Int)) *
                                a2) *
                            (1 : Int) ≤
                          (140737488355328 : Int) then
                  (L41_9 k) k ((), (), ((), (), (), ()), a4, (↑(List.length a4) : Int), (0 : Int), ())
                    ((a1, a2, a3, ()), ((), ()), List.replicate (0 : Nat) (0 : Int), ((), ()),
                      ((Prod.fst (Prod.snd val)).1, (Prod.snd (Prod.fst (Prod.snd val))).1,
                        (Prod.snd (Prod.snd (Prod.fst (Prod.snd val)))).1,
                        (Prod.snd (Prod.snd (Prod.snd (Prod.fst (Prod.snd val))))).1, ()),
                      ())
                else none)
        val
noncomputable def T41 (K : Nat) : List (Entry Try.prog) := [E59 K, E60 K, E61 K]
noncomputable def cuts41 (K : Nat) : List (Cut (AT alts41)) := [⟨9, [2, 8, 9, 34, 35, 36], ps41_9, os41_9, L41_9 K⟩, ⟨14, [8, 9, 46, 47], ps41_14, os41_14, L41_14 K⟩]
theorem s41_9 (K : Nat) : ∀ k x y, L41_9 K (k + 1) x y = roundJ Try.prog (tableJ (T41 K)) (Lof 0 k (cuts41 K)) 9 body41 (endJ Try.prog 0 [.tmp 4, .tmp 5] alts41) (stAt [2, 8, 9, 34, 35, 36] ps41_9 os41_9 x y) := by
  rintro k ⟨⟨⟩, ⟨⟨⟩, ⟨⟨⟨⟩, ⟨⟨⟩, ⟨⟨⟩, ⟨⟩⟩⟩⟩, ⟨a1, ⟨a2, ⟨a3, ⟨⟩⟩⟩⟩⟩⟩⟩ ⟨⟨a4, ⟨a5, ⟨a6, ⟨⟩⟩⟩⟩, ⟨⟨⟨⟩, ⟨⟩⟩, ⟨a7, ⟨⟨⟨⟩, ⟨⟩⟩, ⟨⟨a8, ⟨a9, ⟨a10, ⟨a11, ⟨⟩⟩⟩⟩⟩, ⟨⟩⟩⟩⟩⟩⟩; kernel_rfl
theorem s41_14 (K : Nat) : ∀ k x y, L41_14 K (k + 1) x y = roundJ Try.prog (tableJ (T41 K)) (Lof 0 k (cuts41 K)) 14 body41 (endJ Try.prog 0 [.tmp 4, .tmp 5] alts41) (stAt [8, 9, 46, 47] ps41_14 os41_14 x y) := by
  rintro k ⟨⟨⟩, ⟨⟨⟨⟩, ⟨⟨⟩, ⟨⟨⟩, ⟨⟩⟩⟩⟩, ⟨a1, ⟨a2, ⟨⟩⟩⟩⟩⟩ ⟨⟨⟨⟩, ⟨⟩⟩, ⟨a3, ⟨⟨⟨⟩, ⟨⟩⟩, ⟨⟨a4, ⟨a5, ⟨a6, ⟨a7, ⟨⟩⟩⟩⟩⟩, ⟨⟨a8, ⟨a9, ⟨a10, ⟨⟩⟩⟩⟩, ⟨⟩⟩⟩⟩⟩⟩; kernel_rfl
theorem e41 (k : Nat) : ∀ x y, F41 k x y = codeJ Try.prog (tableJ (T41 k)) (Lof 0 k (cuts41 k)) body41 (st0 pin41 os41 x y) (endJ Try.prog 0 [.tmp 4, .tmp 5] alts41) := by
  rintro ⟨⟨a1, ⟨a2, ⟨a3, ⟨⟩⟩⟩⟩, ⟨a4, ⟨⟩⟩⟩ ⟨⟩; kernel_rfl
theorem k41 (k : Nat) : FnOK Try.prog 41 pin41 os41 alts41 (F41 k) :=
  fn_ok (fn := Try.f41) (body := body41) (cuts := cuts41 k) (k := k) (C := tableJ (T41 k)) (C' := tableJ (T41 k)) (table_ok _) (table_nat _) (table_ok _) mixed (by kernel_rfl) (by kernel_rfl) (by decide) (by kernel_rfl) (fun x => Nat.le_of_ble_eq_true (by kernel_rfl))
    (List.forall_mem_cons.2 ⟨fun x y => rfl, List.forall_mem_cons.2 ⟨fun x y => rfl, fun c h => by cases h⟩⟩) (List.forall_mem_cons.2 ⟨s41_9 k, List.forall_mem_cons.2 ⟨s41_14 k, fun c h => by cases h⟩⟩) (e41 k)
noncomputable def E41 (k : Nat) : Entry Try.prog := ⟨41, pin41, os41, alts41, F41 k, k41 k, rfl⟩
/-! 11 Sums -/
abbrev pin11 : VPL := (.cons (.agg (.cons (.int .i64) (.cons (.arr .u64 3) (.cons (.int .i64) (.cons (.int .i64) (.cons (.arr .u32 3) (.cons (.int .i64) (.cons (.arr .i64 32) (.cons (.int .i64) (.cons (.lst true (.one (.int .u8))) (.cons (.lst true (.one (.int .u8))) .nil))))))))))) .nil)
abbrev os11 : List OP := []
abbrev alts11 : List Alt := [(.bool, [])]
abbrev ps11_12 : VPL := (.cons (.ptr 0 0) (.cons (.full 1) (.cons (.full 2) (.cons (.int .i64) (.cons (.int .i64) (.cons (.int .i64) .nil))))))
abbrev os11_12 : List OP := [.box (.cons (.int .i64) (.cons (.arr .u64 3) (.cons (.int .i64) (.cons (.int .i64) (.cons (.arr .u32 3) (.cons (.int .i64) (.cons (.arr .i64 32) (.cons (.int .i64) (.cons (.lst true (.one (.int .u8))) (.cons (.lst true (.one (.int .u8))) .nil)))))))))) true, .row (.one (.int .i64)) true, .row (.one (.int .u8)) true]
noncomputable def body11 : Code := match Try.f11.body with
  | some c => c
  | none => .skip
def L11_12 (K : Nat) : Nat → ps11_12.T → OPL.T os11_12 → Option (AT alts11)
  | 0, _, _ => none
  | k + 1, ((), ((), ((), (a1, (a2, (a3, ())))))), ((a4, (a5, (a6, (a7, (a8, (a9, (a10, (a11, (a12, (a13, ())))))))))), (a14, (a15, ()))) =>
    if decide (a3 < (↑(List.length a15) : Int)) = true then
      if a7 = (0 : Int) then none
      else
        if a7 = (0 : Int) then none
        else
          Option.bind (F42 ((a4, a5, ()), Int.tmod a3 a7, IntKind.wrap IntKind.i64 (Int.tdiv a3 a7), ()) ()) fun val =>
            if val.1 = true then
              if decide ((↑(List.length a12) : Int) ≤ a2) = true then some (false, ())
              else
                if (0 : Int) ≤ a2 ∧ a2 < (↑(List.length a12) : Int) then
                  if decide ((16 : Int) ≤ IntKind.wrap IntKind.i64 (List.getD a12 (Int.toNat a2) (0 : Int))) = true then
                    some (false, ())
                  else
                    if (0 : Int) ≤ a3 ∧ a3 < (↑(List.length a15) : Int) then
                      if Int.toNat a3 < List.length a15 then
                        if decide ((1 : Int) < List.getD a15 (Int.toNat a3) (0 : Int)) = true then some (false, ())
                        else
                          if (0 : Int) ≤ a3 ∧ a3 < (↑(List.length a15) : Int) then
                            if Int.toNat a3 < List.length a15 then
                              if (0 : Int) ≤ a2 ∧ a2 < (↑(List.length a12) : Int) then
                                if
                                    (0 : Int) ≤ List.getD a15 (Int.toNat a3) (0 : Int) ∧
                                      List.getD a15 (Int.toNat a3) (0 : Int) < (2 : Int) then
                                  if
                                      (0 : Int) ≤ List.getD a12 (Int.toNat a2) (0 : Int) ∧
                                        List.getD a12 (Int.toNat a2) (0 : Int) < (16 : Int) then
                                    if
                                        Int.toNat (List.getD a15 (Int.toNat a3) (0 : Int)) * (16 : Nat) +
                                            Int.toNat (List.getD a12 (Int.toNat a2) (0 : Int)) * (1 : Nat) <
                                          (32 : Nat) then
                                      if a7 = (0 : Int) then none
                                      else
                                        if
                                            decide (Int.tmod (IntKind.wrap IntKind.i64 (a3 + (1 : Int))) a7 = (0 : Int)) =
                                              true then
                                          if a7 = (0 : Int) then none
                                          else
                                            if
                                                (0 : Int) ≤
                                                    IntKind.wrap IntKind.i64
                                                      (Int.tdiv (IntKind.wrap IntKind.i64 (a3 + (1 : Int))) a7) ∧
                                                  IntKind.wrap IntKind.i64
                                                      (Int.tdiv (IntKind.wrap IntKind.i64 (a3 + (1 : Int))) a7) <
                                                    (↑(List.length a14) : Int) then
                                              if
                                                  Int.toNat
                                                      (IntKind.wrap IntKind.i64
                                                        (Int.tdiv (IntKind.wrap IntKind.i64 (a3 + (1 : Int))) a7)) <
                                                    List.length a14 then
                                                if
                                                    (!decide
                                                          (List.getD a14
                                                              (Int.toNat
                                                                (IntKind.wrap IntKind.i64
                                                                  (Int.tdiv (IntKind.wrap IntKind.i64 (a3 + (1 : Int)))
                                                                    a7)))
                                                              (0 : Int) =
                                                            IntKind.wrap IntKind.i64
                                                              (a1 +
                                                                List.getD a10
                                                                  (Int.toNat (List.getD a15 (Int.toNat a3) (0 : Int)) *
                                                                      (16 : Nat) +
                                                                    Int.toNat (List.getD a12 (Int.toNat a2) (0 : Int)) *
                                                                      (1 : Nat))
                                                                  (0 : Int)))) =
                                                      true then
                                                  some (false, ())
                                                else
                                                  (L11_12 K) k
                                                    ((), (), (),
                                                      IntKind.wrap IntKind.i64
                                                        (a1 +
                                                          List.getD a10
                                                            (Int.toNat (List.getD a15 (Int.toNat a3) (0 : Int)) *
                                                                (16 : Nat) +
                                                              Int.toNat (List.getD a12 (Int.toNat a2) (0 : Int)) *
                                                                (1 : Nat))
                                                            (0 : Int)),
                                                      IntKind.wrap IntKind.i64 (a2 + (1 : Int)),
                                                      IntKind.wrap IntKind.i64 (a3 + (1 : Int)), ())
                                                    ((a4, a5, a6, a7, a8, a9, a10, a11, a12, a13, ()), a14, a15, ())
                                              else none
                                            else none
                                        else
                                          (L11_12 K) k
                                            ((), (), (),
                                              IntKind.wrap IntKind.i64
                                                (a1 +
                                                  List.getD a10
                                                    (Int.toNat (List.getD a15 (Int.toNat a3) (0 : Int)) * (16 : Nat) +
                                                      Int.toNat (List.getD a12 (Int.toNat a2) (0 : Int)) * (1 : Nat))
                                                    (0 : Int)),
                                              IntKind.wrap IntKind.i64 (a2 + (1 : Int)),
                                              IntKind.wrap IntKind.i64 (a3 + (1 : Int)), ())
                                            ((a4, a5, a6, a7, a8, a9, a10, a11, a12, a13, ()), a14, a15, ())
                                    else none
                                  else none
                                else none
                              else none
                            else none
                          else none
                      else none
                    else none
                else none
            else
              if a7 = (0 : Int) then none
              else
                if decide (Int.tmod (IntKind.wrap IntKind.i64 (a3 + (1 : Int))) a7 = (0 : Int)) = true then
                  if a7 = (0 : Int) then none
                  else
                    if
                        (0 : Int) ≤ IntKind.wrap IntKind.i64 (Int.tdiv (IntKind.wrap IntKind.i64 (a3 + (1 : Int))) a7) ∧
                          IntKind.wrap IntKind.i64 (Int.tdiv (IntKind.wrap IntKind.i64 (a3 + (1 : Int))) a7) <
                            (↑(List.length a14) : Int) then
                      if
                          Int.toNat (IntKind.wrap IntKind.i64 (Int.tdiv (IntKind.wrap IntKind.i64 (a3 + (1 : Int))) a7)) <
                            List.length a14 then
                        if
                            (!decide
                                  (List.getD a14
                                      (Int.toNat
                                        (IntKind.wrap IntKind.i64
                                          (Int.tdiv (IntKind.wrap IntKind.i64 (a3 + (1 : Int))) a7)))
                                      (0 : Int) =
                                    a1)) =
                              true then
                          some (false, ())
                        else
                          (L11_12 K) k ((), (), (), a1, a2, IntKind.wrap IntKind.i64 (a3 + (1 : Int)), ())
                            ((a4, a5, a6, a7, a8, a9, a10, a11, a12, a13, ()), a14, a15, ())
                      else none
                    else none
                else
                  (L11_12 K) k ((), (), (), a1, a2, IntKind.wrap IntKind.i64 (a3 + (1 : Int)), ())
                    ((a4, a5, a6, a7, a8, a9, a10, a11, a12, a13, ()), a14, a15, ())
    else
      if decide (a2 = (↑(List.length a12) : Int)) = true then Option.bind ((F19 K) () ()) fun val => some (val.1, ())
      else some (false, ())
def F11 (k : Nat) : pin11.T → OPL.T os11 → Option (AT alts11)
  | ((a1, (a2, (a3, (a4, (a5, (a6, (a7, (a8, (a9, (a10, ())))))))))), ()), () =>
    Option.bind ((F12 k) (a9, ()) ()) fun val =>
      Option.bind
        ((F33 k)
          ((a1, a2, ()), (a3, a4, a5, ()), (a6, a7, ()), a8,
            List.take (Prod.fst val).2 (List.drop (Prod.fst val).1 (Prod.snd val).1), ())
          ())
        fun val =>
        Option.bind (F15 ((Prod.snd (Prod.fst val)).1, ()) ()) fun val_1 =>
          if (!decide (val_1.1 = (0 : Int))) = true then Option.bind ((F19 k) () ()) fun val => some (val.1, ())
          else
            if (!decide ((↑(List.length a10) : Int) = a8)) = true then Option.bind ((F19 k) () ()) fun val => some (val.1, ())
            else
              Option.bind ((F29 k) ((a1, a2, ()), a4, ()) ()) fun val_2 =>
                if (!decide (val_2.1 = (0 : Int))) = true then Option.bind ((F19 k) () ()) fun val => some (val.1, ())
                else
                  Option.bind
                    ((F38 k)
                      (((Prod.fst (Prod.fst val)).1, (Prod.snd (Prod.fst (Prod.fst val))).1,
                          (Prod.snd (Prod.snd (Prod.fst (Prod.fst val)))).1,
                          (Prod.snd (Prod.snd (Prod.snd (Prod.fst (Prod.fst val))))).1,
                          (Prod.snd (Prod.snd (Prod.snd (Prod.snd (Prod.fst (Prod.fst val)))))).1,
                          (Prod.snd (Prod.snd (Prod.snd (Prod.snd (Prod.snd (Prod.fst (Prod.fst val))))))).1, (), ()),
                        a10, ())
                      ((Prod.snd val).1, ()))
                    fun val =>
                    Option.bind ((F41 k) ((a3, a4, a5, ()), a10, ()) ()) fun val_3 =>
                      Option.bind (F15 ((Prod.snd (Prod.fst val)).1, ()) ()) fun val_4 =>
                        if (!decide (val_4.1 = (0 : Int))) = true then Option.bind ((F19 k) () ()) fun val => some (val.1, ())
                        else
                          Option.bind (F15 ((Prod.snd (Prod.fst val_3)).1, ()) ()) fun val_5 =>
                            if (!decide (val_5.1 = (0 : Int))) = true then
                              Option.bind ((F19 k) () ()) fun val => some (val.1, ())
                            else
                              if
                                  (!decide
                                        ((↑(List.length (Prod.snd (Prod.snd val)).1) : Int) =
                                          IntKind.wrap IntKind.i64 (a8 + a3))) =
                                    true then
                                some (false, ())
                              else
                                if
                                    (!decide
                                          ((↑(List.length (Prod.snd val_3).1) : Int) =
                                            IntKind.wrap IntKind.i64
                                              (IntKind.wrap IntKind.i64
                                                  ((↑(List.length (Prod.snd (Prod.snd val)).1) : Int) - (1 : Int)) *
                                                a4))) =
                                      true then
                                  some (false, ())
                                else
                                  (L11_12 k) k ((), (), (), (0 : Int), (0 : Int), (0 : Int), ())
                                    ((a1, a2, a3, a4, a5, a6, a7, a8, a9, a10, ()), (Prod.snd (Prod.snd val)).1,
                                      (Prod.snd val_3).1, ())
noncomputable def T11 (K : Nat) : List (Entry Try.prog) := [E12 K, E33 K, E15, E29 K, E19 K, E38 K, E41 K, E42]
noncomputable def cuts11 (K : Nat) : List (Cut (AT alts11)) := [⟨12, [1, 5, 7, 9, 10, 11], ps11_12, os11_12, L11_12 K⟩]
theorem s11_12 (K : Nat) : ∀ k x y, L11_12 K (k + 1) x y = roundJ Try.prog (tableJ (T11 K)) (Lof 0 k (cuts11 K)) 12 body11 (endJ Try.prog 0 [.tmp 2] alts11) (stAt [1, 5, 7, 9, 10, 11] ps11_12 os11_12 x y) := by
  rintro k ⟨⟨⟩, ⟨⟨⟩, ⟨⟨⟩, ⟨a1, ⟨a2, ⟨a3, ⟨⟩⟩⟩⟩⟩⟩⟩ ⟨⟨a4, ⟨a5, ⟨a6, ⟨a7, ⟨a8, ⟨a9, ⟨a10, ⟨a11, ⟨a12, ⟨a13, ⟨⟩⟩⟩⟩⟩⟩⟩⟩⟩⟩⟩, ⟨a14, ⟨a15, ⟨⟩⟩⟩⟩; kernel_rfl
theorem e11 (k : Nat) : ∀ x y, F11 k x y = codeJ Try.prog (tableJ (T11 k)) (Lof 0 k (cuts11 k)) body11 (st0 pin11 os11 x y) (endJ Try.prog 0 [.tmp 2] alts11) := by
  rintro ⟨⟨a1, ⟨a2, ⟨a3, ⟨a4, ⟨a5, ⟨a6, ⟨a7, ⟨a8, ⟨a9, ⟨a10, ⟨⟩⟩⟩⟩⟩⟩⟩⟩⟩⟩⟩, ⟨⟩⟩ ⟨⟩; kernel_rfl
theorem k11 (k : Nat) : FnOK Try.prog 11 pin11 os11 alts11 (F11 k) :=
  fn_ok (fn := Try.f11) (body := body11) (cuts := cuts11 k) (k := k) (C := tableJ (T11 k)) (C' := tableJ (T11 k)) (table_ok _) (table_nat _) (table_ok _) mixed (by kernel_rfl) (by kernel_rfl) (by decide) (by kernel_rfl) (fun x => Nat.le_of_ble_eq_true (by kernel_rfl))
    (List.forall_mem_cons.2 ⟨fun x y => rfl, fun c h => by cases h⟩) (List.forall_mem_cons.2 ⟨s11_12 k, fun c h => by cases h⟩) (e11 k)
noncomputable def E11 (k : Nat) : Entry Try.prog := ⟨11, pin11, os11, alts11, F11 k, k11 k, rfl⟩
end Go.Eng.Pu

