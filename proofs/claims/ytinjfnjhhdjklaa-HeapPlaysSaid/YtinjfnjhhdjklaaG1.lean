/- What the functions of this seat come to, in plain Lean, part 1. No condition. -/
import Derived.Test.YtinjfnjhhdjklaaE3
import Derived.Test.YtinjfnjhhdjklaaE4
import Derived.Test.YtinjfnjhhdjklaaProg
import Derived.KernelRfl
set_option linter.unusedVariables false
set_option linter.unusedSimpArgs false
set_option linter.unusedVariables false
set_option maxRecDepth 100000
open Go Go.Eng Go.Proofs
namespace Go.Eng.He
theorem mixed : Try.prog.follows .mixedOrders = true := by kernel_rfl
abbrev oo0 : List OP := [.box (.cons (.int .i64) (.cons (.full 1) (.cons (.full 2) (.cons (.ptr 3 0) (.cons (.ptr 7 0) (.cons (.int .u64) (.cons (.int .i64) (.cons .bool .nil)))))))) true, .row (.many [.int .i64, .int .i64, .int .i64, .int .u64]) true, .row (.one (.int .i64)) true, .box (.cons (.fn 22 (.cons (.ptr 4 0) .nil)) (.cons (.full 5) (.cons (.full 6) .nil))) true, .box (.cons (.ptr 0 0) .nil) true, .row (.one (.int .i64)) true, .row (.one (.int .i64)) true, .box (.cons (.fn 24 (.cons (.ptr 4 0) .nil)) (.cons (.full 8) (.cons (.full 9) .nil))) true, .row (.one (.int .i64)) true, .row (.one (.int .i64)) true, .box (.cons (.int .i64) (.cons (.full 11) (.cons (.int .i64) (.cons .bool .nil)))) true, .row (.many [.int .i64, .int .i64, .int .i64]) true]
abbrev oo1 : List OP := [.box (.cons (.fn 22 (.cons (.ptr 1 0) .nil)) (.cons (.full 10) (.cons (.full 11) .nil))) true, .box (.cons (.ptr 2 0) .nil) true, .box (.cons (.int .i64) (.cons (.full 12) (.cons (.full 13) (.cons (.ptr 0 0) (.cons (.ptr 5 0) (.cons (.int .u64) (.cons (.int .i64) (.cons .bool .nil)))))))) true, .gone, .gone, .box (.cons (.fn 24 (.cons (.ptr 1 0) .nil)) (.cons (.full 14) (.cons (.full 15) .nil))) true, .gone, .gone, .gone, .gone, .row (.one (.int .i64)) true, .row (.one (.int .i64)) true, .row (.many [.int .i64, .int .i64, .int .i64, .int .u64]) true, .row (.one (.int .i64)) true, .row (.one (.int .i64)) true, .row (.one (.int .i64)) true]
abbrev oo2 : List OP := [.box (.cons (.fn 24 (.cons (.ptr 1 0) .nil)) (.cons (.full 10) (.cons (.full 11) .nil))) true, .box (.cons (.ptr 2 0) .nil) true, .box (.cons (.int .i64) (.cons (.full 12) (.cons (.full 13) (.cons (.ptr 5 0) (.cons (.ptr 0 0) (.cons (.int .u64) (.cons (.int .i64) (.cons .bool .nil)))))))) true, .gone, .gone, .box (.cons (.fn 22 (.cons (.ptr 1 0) .nil)) (.cons (.full 14) (.cons (.full 15) .nil))) true, .gone, .gone, .gone, .gone, .row (.one (.int .i64)) true, .row (.one (.int .i64)) true, .row (.many [.int .i64, .int .i64, .int .i64, .int .u64]) true, .row (.one (.int .i64)) true, .row (.one (.int .i64)) true, .row (.one (.int .i64)) true]
abbrev oo3 : List OP := [.box (.cons (.int .i64) (.cons (.full 10) (.cons (.full 11) (.cons (.ptr 3 0) (.cons (.ptr 7 0) (.cons (.int .u64) (.cons (.int .i64) (.cons .bool .nil)))))))) true, .gone, .gone, .box (.cons (.fn 22 (.cons (.ptr 4 0) .nil)) (.cons (.full 12) (.cons (.full 13) .nil))) true, .box (.cons (.ptr 0 0) .nil) true, .gone, .gone, .box (.cons (.fn 24 (.cons (.ptr 4 0) .nil)) (.cons (.full 14) (.cons (.full 15) .nil))) true, .gone, .gone, .row (.many [.int .i64, .int .i64, .int .i64, .int .u64]) true, .row (.one (.int .i64)) true, .row (.one (.int .i64)) true, .row (.one (.int .i64)) true, .row (.one (.int .i64)) true, .row (.one (.int .i64)) true]
abbrev oo4 : List OP := [.box (.cons (.int .i64) (.cons (.full 1) (.cons (.full 2) (.cons (.ptr 3 0) (.cons (.ptr 7 0) (.cons (.int .u64) (.cons (.int .i64) (.cons .bool .nil)))))))) false, .row (.many [.int .i64, .int .i64, .int .i64, .int .u64]) false, .row (.one (.int .i64)) false, .box (.cons (.fn 22 (.cons (.ptr 4 0) .nil)) (.cons (.full 5) (.cons (.full 6) .nil))) false, .box (.cons (.ptr 0 0) .nil) false, .row (.one (.int .i64)) false, .row (.one (.int .i64)) false, .box (.cons (.fn 24 (.cons (.ptr 4 0) .nil)) (.cons (.full 8) (.cons (.full 9) .nil))) false, .row (.one (.int .i64)) false, .row (.one (.int .i64)) false]
abbrev oo5 : List OP := [.box (.cons (.fn 22 (.cons (.ptr 1 0) .nil)) (.cons (.full 8) (.cons (.full 9) .nil))) true, .box (.cons (.ptr 2 0) .nil) true, .box (.cons (.int .i64) (.cons (.full 3) (.cons (.full 4) (.cons (.ptr 0 0) (.cons (.ptr 5 0) (.cons (.int .u64) (.cons (.int .i64) (.cons .bool .nil)))))))) true, .row (.many [.int .i64, .int .i64, .int .i64, .int .u64]) true, .row (.one (.int .i64)) true, .box (.cons (.fn 24 (.cons (.ptr 1 0) .nil)) (.cons (.full 6) (.cons (.full 7) .nil))) true, .row (.one (.int .i64)) true, .row (.one (.int .i64)) true, .row (.one (.int .i64)) true, .row (.one (.int .i64)) true]
abbrev oo6 : List OP := [.box (.cons (.fn 24 (.cons (.ptr 1 0) .nil)) (.cons (.full 8) (.cons (.full 9) .nil))) true, .box (.cons (.ptr 2 0) .nil) true, .box (.cons (.int .i64) (.cons (.full 3) (.cons (.full 4) (.cons (.ptr 5 0) (.cons (.ptr 0 0) (.cons (.int .u64) (.cons (.int .i64) (.cons .bool .nil)))))))) true, .row (.many [.int .i64, .int .i64, .int .i64, .int .u64]) true, .row (.one (.int .i64)) true, .box (.cons (.fn 22 (.cons (.ptr 1 0) .nil)) (.cons (.full 6) (.cons (.full 7) .nil))) true, .row (.one (.int .i64)) true, .row (.one (.int .i64)) true, .row (.one (.int .i64)) true, .row (.one (.int .i64)) true]
abbrev oo7 : List OP := [.box (.cons (.int .i64) (.cons (.full 1) (.cons (.full 2) (.cons (.ptr 3 0) (.cons (.ptr 7 0) (.cons (.int .u64) (.cons (.int .i64) (.cons .bool .nil)))))))) true, .row (.many [.int .i64, .int .i64, .int .i64, .int .u64]) true, .row (.one (.int .i64)) true, .box (.cons (.fn 22 (.cons (.ptr 4 0) .nil)) (.cons (.full 5) (.cons (.full 6) .nil))) true, .box (.cons (.ptr 0 0) .nil) true, .row (.one (.int .i64)) true, .row (.one (.int .i64)) true, .box (.cons (.fn 24 (.cons (.ptr 4 0) .nil)) (.cons (.full 8) (.cons (.full 9) .nil))) true, .row (.one (.int .i64)) true, .row (.one (.int .i64)) true]
abbrev oo8 : List OP := [.box (.cons (.ptr 1 0) .nil) false, .box (.cons (.int .i64) (.cons (.full 2) (.cons (.full 3) (.cons (.ptr 4 0) (.cons (.ptr 7 0) (.cons (.int .u64) (.cons (.int .i64) (.cons .bool .nil)))))))) false, .row (.many [.int .i64, .int .i64, .int .i64, .int .u64]) false, .gone, .gone, .gone, .gone, .gone, .gone, .gone]
abbrev oo9 : List OP := [.box (.cons (.int .i64) (.cons (.full 2) (.cons (.int .i64) (.cons .bool .nil)))) true, .gone, .row (.many [.int .i64, .int .i64, .int .i64]) true]
abbrev oo10 : List OP := [.box (.cons (.int .i64) (.cons (.full 1) (.cons (.int .i64) (.cons .bool .nil)))) false, .row (.many [.int .i64, .int .i64, .int .i64]) false]
abbrev oo11 : List OP := [.box (.cons (.int .i64) (.cons (.full 1) (.cons (.int .i64) (.cons .bool .nil)))) true, .row (.many [.int .i64, .int .i64, .int .i64]) true]
abbrev oo12 : List OP := [.row (.many [.int .i64, .int .i64, .int .i64, .int .u64]) true, .box (.cons (.int .i64) .nil) true]
abbrev oo13 : List OP := [.row (.many [.int .i64, .int .i64, .int .i64, .int .u64]) true]
abbrev ent0 : Int × Int × Int × Int := (0, 0, 0, 0)
abbrev entT (x : Int × Int × Int × Int) : Int × Int × Int × Int × Unit := (x.1, x.2.1, x.2.2.1, x.2.2.2, ())
abbrev itm0 : Int × Int × Int := (0, 0, 0)
abbrev itmT (x : Int × Int × Int) : Int × Int × Int × Unit := (x.1, x.2.1, x.2.2, ())
abbrev itmE (x : Int × Int × Int × Int) : Int × Int × Int := (x.1, x.2.1, x.2.2.1)
abbrev pin23 : VPL := (.cons (.agg (.cons (.int .i64) (.cons (.int .i64) (.cons (.int .i64) (.cons (.int .u64) .nil))))) (.cons (.agg (.cons (.int .i64) (.cons (.int .i64) (.cons (.int .i64) (.cons (.int .u64) .nil))))) .nil))
abbrev os23 : List OP := []
abbrev alts23 : List Alt := [(.bool, [])]
noncomputable def body23 : Code := match Try.f23.body with
  | some c => c
  | none => .skip
def F23 : pin23.T → OPL.T os23 → Option (AT alts23)
  | ((a1, (a2, (a3, (a4, ())))), ((a5, (a6, (a7, (a8, ())))), ())), () =>
    if (!decide (a1 = a5)) = true then some (decide (a5 < a1), ()) else if (!decide (a2 = a6)) = true then some (decide (a6 < a2), ()) else some (decide (a8 < a4), ())
noncomputable def T23 : List (Entry Try.prog) := []
noncomputable def cuts23 : List (Cut (AT alts23)) := []
theorem e23 : ∀ x y, F23 x y = codeJ Try.prog (tableJ (T23)) (Lof 0 0 (cuts23)) body23 (st0 pin23 os23 x y) (endJ Try.prog 0 [.tmp 4] alts23) := by
  intro x y; kernel_rfl
theorem k23 : FnOK Try.prog 23 pin23 os23 alts23 (F23) :=
  fn_ok (fn := Try.f23) (body := body23) (cuts := cuts23) (k := 0) (C := tableJ (T23)) (C' := tableJ (T23)) (table_ok _) (table_nat _) (table_ok _) mixed (by kernel_rfl) (by kernel_rfl) (by decide) (by kernel_rfl) (fun x => Nat.le_of_ble_eq_true (by kernel_rfl))
    (fun c h => by cases h) (fun c h => by cases h) (e23)
noncomputable def E23 : Entry Try.prog := ⟨23, pin23, os23, alts23, F23, k23, rfl⟩
abbrev pin22 : VPL := (.cons (.int .i64) (.cons (.int .i64) (.cons (.ptr 0 0) .nil)))
abbrev os22 : List OP := oo8
abbrev alts22 : List Alt := [(.bool, oo8)]
noncomputable def body22 : Code := match Try.f22.body with
  | some c => c
  | none => .skip
def F22 : pin22.T → OPL.T os22 → Option (AT alts22)
  | (a1, (a2, ((), ()))), (((), ()), ((a3, ((), ((), ((), ((), (a4, (a5, (a6, ())))))))), (a7, ((), ((), ((), ((), ((), ((), ((), ())))))))))) =>
    if (0 : Int) ≤ a1 ∧ a1 < (↑(List.length a7) : Int) then if Int.toNat a1 < List.length a7 then if (0 : Int) ≤ a2 ∧ a2 < (↑(List.length a7) : Int) then if Int.toNat a2 < List.length a7 then Option.bind (F23 ((entT (List.getD a7 (Int.toNat a1) ent0)), (entT (List.getD a7 (Int.toNat a2) ent0)), ()) ()) fun val => some (val.1, ((), ()), (a3, (), (), (), (), a4, a5, a6, ()), a7, (), (), (), (), (), (), (), ()) else none else none else none else none
noncomputable def T22 : List (Entry Try.prog) := [E23]
noncomputable def cuts22 : List (Cut (AT alts22)) := []
theorem e22 : ∀ x y, F22 x y = codeJ Try.prog (tableJ (T22)) (Lof 10 0 (cuts22)) body22 (st0 pin22 os22 x y) (endJ Try.prog 10 [.tmp 5] alts22) := by
  intro x y; kernel_rfl
theorem k22 : FnOK Try.prog 22 pin22 os22 alts22 (F22) :=
  fn_ok (fn := Try.f22) (body := body22) (cuts := cuts22) (k := 0) (C := tableJ (T22)) (C' := tableJ (T22)) (table_ok _) (table_nat _) (table_ok _) mixed (by kernel_rfl) (by kernel_rfl) (by decide) (by kernel_rfl) (fun x => Nat.le_of_ble_eq_true (by kernel_rfl))
    (fun c h => by cases h) (fun c h => by cases h) (e22)
noncomputable def E22 : Entry Try.prog := ⟨22, pin22, os22, alts22, F22, k22, rfl⟩
abbrev pin24 : VPL := (.cons (.int .i64) (.cons (.int .i64) (.cons (.ptr 0 0) .nil)))
abbrev os24 : List OP := oo8
abbrev alts24 : List Alt := [(.bool, oo8)]
noncomputable def body24 : Code := match Try.f24.body with
  | some c => c
  | none => .skip
def F24 : pin24.T → OPL.T os24 → Option (AT alts24)
  | (a1, (a2, ((), ()))), (((), ()), ((a3, ((), ((), ((), ((), (a4, (a5, (a6, ())))))))), (a7, ((), ((), ((), ((), ((), ((), ((), ())))))))))) =>
    if (0 : Int) ≤ a2 ∧ a2 < (↑(List.length a7) : Int) then if Int.toNat a2 < List.length a7 then if (0 : Int) ≤ a1 ∧ a1 < (↑(List.length a7) : Int) then if Int.toNat a1 < List.length a7 then Option.bind (F23 ((entT (List.getD a7 (Int.toNat a2) ent0)), (entT (List.getD a7 (Int.toNat a1) ent0)), ()) ()) fun val => some (val.1, ((), ()), (a3, (), (), (), (), a4, a5, a6, ()), a7, (), (), (), (), (), (), (), ()) else none else none else none else none
noncomputable def T24 : List (Entry Try.prog) := [E23]
noncomputable def cuts24 : List (Cut (AT alts24)) := []
theorem e24 : ∀ x y, F24 x y = codeJ Try.prog (tableJ (T24)) (Lof 10 0 (cuts24)) body24 (st0 pin24 os24 x y) (endJ Try.prog 10 [.tmp 5] alts24) := by
  intro x y; kernel_rfl
theorem k24 : FnOK Try.prog 24 pin24 os24 alts24 (F24) :=
  fn_ok (fn := Try.f24) (body := body24) (cuts := cuts24) (k := 0) (C := tableJ (T24)) (C' := tableJ (T24)) (table_ok _) (table_nat _) (table_ok _) mixed (by kernel_rfl) (by kernel_rfl) (by decide) (by kernel_rfl) (fun x => Nat.le_of_ble_eq_true (by kernel_rfl))
    (fun c h => by cases h) (fun c h => by cases h) (e24)
noncomputable def E24 : Entry Try.prog := ⟨24, pin24, os24, alts24, F24, k24, rfl⟩
abbrev pin45b : VPL := (.cons (.ptr 0 0) (.cons (.int .i64) (.cons (.int .i64) .nil)))
abbrev os45b : List OP := oo5
abbrev alts45b : List Alt := [(.tup .nil, oo5)]
noncomputable def body45b : Code := match Try.f45.body with
  | some c => c
  | none => .skip
def F45b : pin45b.T → OPL.T os45b → Option (AT alts45b)
  | ((), (a1, (a2, ()))), ((((), ()), ((), ((), ()))), (((), ()), ((a3, ((), ((), ((), ((), (a4, (a5, (a6, ())))))))), (a7, (a8, ((((), ()), ((), ((), ()))), (a9, (a10, (a11, (a12, ())))))))))) =>
    if (0 : Int) ≤ a2 ∧ a2 < (↑(List.length a11) : Int) then if Int.toNat a2 < List.length a11 then if (0 : Int) ≤ a1 ∧ a1 < (↑(List.length a11) : Int) then if Int.toNat a1 < List.length a11 then if (0 : Int) ≤ a1 ∧ a1 < (↑(List.length a11) : Int) then if Int.toNat a1 < List.length a11 then if (0 : Int) ≤ a2 ∧ a2 < (↑(List.length (List.set a11 (Int.toNat a1) (List.getD a11 (Int.toNat a2) (0 : Int)))) : Int) then if Int.toNat a2 < List.length (List.set a11 (Int.toNat a1) (List.getD a11 (Int.toNat a2) (0 : Int))) then if (0 : Int) ≤ a1 ∧ a1 < (↑(List.length (List.set (List.set a11 (Int.toNat a1) (List.getD a11 (Int.toNat a2) (0 : Int))) (Int.toNat a2) (List.getD a11 (Int.toNat a1) (0 : Int)))) : Int) then if Int.toNat a1 < List.length (List.set (List.set a11 (Int.toNat a1) (List.getD a11 (Int.toNat a2) (0 : Int))) (Int.toNat a2) (List.getD a11 (Int.toNat a1) (0 : Int))) then if (0 : Int) ≤ a2 ∧ a2 < (↑(List.length (List.set (List.set a11 (Int.toNat a1) (List.getD a11 (Int.toNat a2) (0 : Int))) (Int.toNat a2) (List.getD a11 (Int.toNat a1) (0 : Int)))) : Int) then if Int.toNat a2 < List.length (List.set (List.set a11 (Int.toNat a1) (List.getD a11 (Int.toNat a2) (0 : Int))) (Int.toNat a2) (List.getD a11 (Int.toNat a1) (0 : Int))) then if (0 : Int) ≤ List.getD (List.set (List.set a11 (Int.toNat a1) (List.getD a11 (Int.toNat a2) (0 : Int))) (Int.toNat a2) (List.getD a11 (Int.toNat a1) (0 : Int))) (Int.toNat a1) (0 : Int) ∧ List.getD (List.set (List.set a11 (Int.toNat a1) (List.getD a11 (Int.toNat a2) (0 : Int))) (Int.toNat a2) (List.getD a11 (Int.toNat a1) (0 : Int))) (Int.toNat a1) (0 : Int) < (↑(List.length a12) : Int) then if Int.toNat (List.getD (List.set (List.set a11 (Int.toNat a1) (List.getD a11 (Int.toNat a2) (0 : Int))) (Int.toNat a2) (List.getD a11 (Int.toNat a1) (0 : Int))) (Int.toNat a1) (0 : Int)) < List.length a12 then if (0 : Int) ≤ List.getD (List.set (List.set a11 (Int.toNat a1) (List.getD a11 (Int.toNat a2) (0 : Int))) (Int.toNat a2) (List.getD a11 (Int.toNat a1) (0 : Int))) (Int.toNat a2) (0 : Int) ∧ List.getD (List.set (List.set a11 (Int.toNat a1) (List.getD a11 (Int.toNat a2) (0 : Int))) (Int.toNat a2) (List.getD a11 (Int.toNat a1) (0 : Int))) (Int.toNat a2) (0 : Int) < (↑(List.length (List.set a12 (Int.toNat (List.getD (List.set (List.set a11 (Int.toNat a1) (List.getD a11 (Int.toNat a2) (0 : Int))) (Int.toNat a2) (List.getD a11 (Int.toNat a1) (0 : Int))) (Int.toNat a1) (0 : Int))) a1)) : Int) then if Int.toNat (List.getD (List.set (List.set a11 (Int.toNat a1) (List.getD a11 (Int.toNat a2) (0 : Int))) (Int.toNat a2) (List.getD a11 (Int.toNat a1) (0 : Int))) (Int.toNat a2) (0 : Int)) < List.length (List.set a12 (Int.toNat (List.getD (List.set (List.set a11 (Int.toNat a1) (List.getD a11 (Int.toNat a2) (0 : Int))) (Int.toNat a2) (List.getD a11 (Int.toNat a1) (0 : Int))) (Int.toNat a1) (0 : Int))) a1) then some ((), (((), ()), (), (), ()), ((), ()), (a3, (), (), (), (), a4, a5, a6, ()), a7, a8, (((), ()), (), (), ()), a9, a10, List.set (List.set a11 (Int.toNat a1) (List.getD a11 (Int.toNat a2) (0 : Int))) (Int.toNat a2) (List.getD a11 (Int.toNat a1) (0 : Int)), List.set (List.set a12 (Int.toNat (List.getD (List.set (List.set a11 (Int.toNat a1) (List.getD a11 (Int.toNat a2) (0 : Int))) (Int.toNat a2) (List.getD a11 (Int.toNat a1) (0 : Int))) (Int.toNat a1) (0 : Int))) a1) (Int.toNat (List.getD (List.set (List.set a11 (Int.toNat a1) (List.getD a11 (Int.toNat a2) (0 : Int))) (Int.toNat a2) (List.getD a11 (Int.toNat a1) (0 : Int))) (Int.toNat a2) (0 : Int))) a2, ()) else none else none else none else none else none else none else none else none else none else none else none else none else none else none else none else none
noncomputable def T45b : List (Entry Try.prog) := []
noncomputable def cuts45b : List (Cut (AT alts45b)) := []
theorem e45b : ∀ x y, F45b x y = codeJ Try.prog (tableJ (T45b)) (Lof 10 0 (cuts45b)) body45b (st0 pin45b os45b x y) (endJ Try.prog 10 [] alts45b) := by
  intro x y; kernel_rfl
theorem k45b : FnOK Try.prog 45 pin45b os45b alts45b (F45b) :=
  fn_ok (fn := Try.f45) (body := body45b) (cuts := cuts45b) (k := 0) (C := tableJ (T45b)) (C' := tableJ (T45b)) (table_ok _) (table_nat _) (table_ok _) mixed (by kernel_rfl) (by kernel_rfl) (by decide) (by kernel_rfl) (fun x => Nat.le_of_ble_eq_true (by kernel_rfl))
    (fun c h => by cases h) (fun c h => by cases h) (e45b)
noncomputable def E45b : Entry Try.prog := ⟨45, pin45b, os45b, alts45b, F45b, k45b, rfl⟩
abbrev pin41b : VPL := (.cons (.ptr 0 0) (.cons (.int .i64) .nil))
abbrev os41b : List OP := oo5
abbrev alts41b : List Alt := [(.tup .nil, oo5)]
abbrev ps41b_0 : VPL := (.cons (.ptr 0 0) (.cons (.int .i64) .nil))
abbrev os41b_0 : List OP := oo5
noncomputable def body41b : Code := match Try.f41.body with
  | some c => c
  | none => .skip
def L41b_0 : Nat → ps41b_0.T → OPL.T os41b_0 → Option (AT alts41b)
  | 0, _, _ => none
  | k + 1, ((), (a1, ())), ((((), ()), ((), ((), ()))), (((), ()), ((a2, ((), ((), ((), ((), (a3, (a4, (a5, ())))))))), (a6, (a7, ((((), ()), ((), ((), ()))), (a8, (a9, (a10, (a11, ())))))))))) =>
    if decide ((0 : Int) < a1) = true then if (0 : Int) ≤ a1 ∧ a1 < (↑(List.length a10) : Int) then if Int.toNat a1 < List.length a10 then if (0 : Int) ≤ IntKind.wrap IntKind.i64 (Int.tdiv (IntKind.wrap IntKind.i64 (a1 - (1 : Int))) (2 : Int)) ∧ IntKind.wrap IntKind.i64 (Int.tdiv (IntKind.wrap IntKind.i64 (a1 - (1 : Int))) (2 : Int)) < (↑(List.length a10) : Int) then if Int.toNat (IntKind.wrap IntKind.i64 (Int.tdiv (IntKind.wrap IntKind.i64 (a1 - (1 : Int))) (2 : Int))) < List.length a10 then Option.bind (F22 (List.getD a10 (Int.toNat a1) (0 : Int), List.getD a10 (Int.toNat (IntKind.wrap IntKind.i64 (Int.tdiv (IntKind.wrap IntKind.i64 (a1 - (1 : Int))) (2 : Int)))) (0 : Int), (), ()) (((), ()), (a2, (), (), (), (), a3, a4, a5, ()), a6, (), (), (), (), (), (), (), ())) fun val => if val.1 = true then Option.bind (F45b ((), a1, IntKind.wrap IntKind.i64 (Int.tdiv (IntKind.wrap IntKind.i64 (a1 - (1 : Int))) (2 : Int)), ()) ((((), ()), (), (), ()), ((), ()), (a2, (), (), (), (), a3, a4, a5, ()), a6, a7, (((), ()), (), (), ()), a8, a9, a10, a11, ())) fun val => L41b_0 k ((), IntKind.wrap IntKind.i64 (Int.tdiv (IntKind.wrap IntKind.i64 (a1 - (1 : Int))) (2 : Int)), ()) ((((), ()), (), (), ()), ((), ()), (val.2.2.2.1.1, (), (), (), (), val.2.2.2.1.2.2.2.2.2.1, val.2.2.2.1.2.2.2.2.2.2.1, val.2.2.2.1.2.2.2.2.2.2.2.1, ()), val.2.2.2.2.1, val.2.2.2.2.2.1, (((), ()), (), (), ()), val.2.2.2.2.2.2.2.1, val.2.2.2.2.2.2.2.2.1, val.2.2.2.2.2.2.2.2.2.1, val.2.2.2.2.2.2.2.2.2.2.1, ()) else some ((), (((), ()), (), (), ()), ((), ()), (a2, (), (), (), (), a3, a4, a5, ()), a6, a7, (((), ()), (), (), ()), a8, a9, a10, a11, ()) else none else none else none else none else some ((), (((), ()), (), (), ()), ((), ()), (a2, (), (), (), (), a3, a4, a5, ()), a6, a7, (((), ()), (), (), ()), a8, a9, a10, a11, ())
def F41b (k : Nat) : pin41b.T → OPL.T os41b → Option (AT alts41b)
  | ((), (a1, ())), ((((), ()), ((), ((), ()))), (((), ()), ((a2, ((), ((), ((), ((), (a3, (a4, (a5, ())))))))), (a6, (a7, ((((), ()), ((), ((), ()))), (a8, (a9, (a10, (a11, ())))))))))) =>
    L41b_0 k ((), a1, ()) ((((), ()), (), (), ()), ((), ()), (a2, (), (), (), (), a3, a4, a5, ()), a6, a7, (((), ()), (), (), ()), a8, a9, a10, a11, ())
noncomputable def T41b : List (Entry Try.prog) := [E45b, E22]
noncomputable def cuts41b : List (Cut (AT alts41b)) := [⟨0, [0, 1], ps41b_0, os41b_0, L41b_0⟩]
theorem s41b_0 : ∀ k x y, L41b_0 (k + 1) x y = roundJ Try.prog (tableJ (T41b)) (Lof 10 k (cuts41b)) 0 body41b (endJ Try.prog 10 [] alts41b) (stAt [0, 1] ps41b_0 os41b_0 x y) := by
  intro k x y; kernel_rfl
theorem e41b (k : Nat) : ∀ x y, F41b k x y = codeJ Try.prog (tableJ (T41b)) (Lof 10 k (cuts41b)) body41b (st0 pin41b os41b x y) (endJ Try.prog 10 [] alts41b) := by
  intro x y; kernel_rfl
theorem k41b (k : Nat) : FnOK Try.prog 41 pin41b os41b alts41b (F41b k) :=
  fn_ok (fn := Try.f41) (body := body41b) (cuts := cuts41b) (k := k) (C := tableJ (T41b)) (C' := tableJ (T41b)) (table_ok _) (table_nat _) (table_ok _) mixed (by kernel_rfl) (by kernel_rfl) (by decide) (by kernel_rfl) (fun x => Nat.le_of_ble_eq_true (by kernel_rfl))
    (List.forall_mem_cons.2 ⟨fun x y => rfl, fun c h => by cases h⟩) (List.forall_mem_cons.2 ⟨s41b_0, fun c h => by cases h⟩) (e41b k)
noncomputable def E41b (k : Nat) : Entry Try.prog := ⟨41, pin41b, os41b, alts41b, F41b k, k41b k, rfl⟩
abbrev pin46b : VPL := (.cons (.ptr 0 0) (.cons (.int .i64) .nil))
abbrev os46b : List OP := oo5
abbrev alts46b : List Alt := [(.tup .nil, oo5)]
abbrev ps46b_0 : VPL := (.cons (.ptr 0 0) (.cons (.int .i64) .nil))
abbrev os46b_0 : List OP := oo5
noncomputable def body46b : Code := match Try.f46.body with
  | some c => c
  | none => .skip
def L46b_0 : Nat → ps46b_0.T → OPL.T os46b_0 → Option (AT alts46b)
  | 0, _, _ => none
  | k + 1, ((), (a1, ())), ((((), ()), ((), ((), ()))), (((), ()), ((a2, ((), ((), ((), ((), (a3, (a4, (a5, ())))))))), (a6, (a7, ((((), ()), ((), ((), ()))), (a8, (a9, (a10, (a11, ())))))))))) =>
    if decide ((↑(List.length a10) : Int) ≤ IntKind.wrap IntKind.i64 (IntKind.wrap IntKind.i64 ((2 : Int) * a1) + (1 : Int))) = true then some ((), (((), ()), (), (), ()), ((), ()), (a2, (), (), (), (), a3, a4, a5, ()), a6, a7, (((), ()), (), (), ()), a8, a9, a10, a11, ()) else if decide (IntKind.wrap IntKind.i64 (IntKind.wrap IntKind.i64 (IntKind.wrap IntKind.i64 ((2 : Int) * a1) + (1 : Int)) + (1 : Int)) < (↑(List.length a10) : Int)) = true then if (0 : Int) ≤ IntKind.wrap IntKind.i64 (IntKind.wrap IntKind.i64 (IntKind.wrap IntKind.i64 ((2 : Int) * a1) + (1 : Int)) + (1 : Int)) ∧ IntKind.wrap IntKind.i64 (IntKind.wrap IntKind.i64 (IntKind.wrap IntKind.i64 ((2 : Int) * a1) + (1 : Int)) + (1 : Int)) < (↑(List.length a10) : Int) then if Int.toNat (IntKind.wrap IntKind.i64 (IntKind.wrap IntKind.i64 (IntKind.wrap IntKind.i64 ((2 : Int) * a1) + (1 : Int)) + (1 : Int))) < List.length a10 then if (0 : Int) ≤ IntKind.wrap IntKind.i64 (IntKind.wrap IntKind.i64 ((2 : Int) * a1) + (1 : Int)) ∧ IntKind.wrap IntKind.i64 (IntKind.wrap IntKind.i64 ((2 : Int) * a1) + (1 : Int)) < (↑(List.length a10) : Int) then if Int.toNat (IntKind.wrap IntKind.i64 (IntKind.wrap IntKind.i64 ((2 : Int) * a1) + (1 : Int))) < List.length a10 then Option.bind (F22 (List.getD a10 (Int.toNat (IntKind.wrap IntKind.i64 (IntKind.wrap IntKind.i64 (IntKind.wrap IntKind.i64 ((2 : Int) * a1) + (1 : Int)) + (1 : Int)))) (0 : Int), List.getD a10 (Int.toNat (IntKind.wrap IntKind.i64 (IntKind.wrap IntKind.i64 ((2 : Int) * a1) + (1 : Int)))) (0 : Int), (), ()) (((), ()), (a2, (), (), (), (), a3, a4, a5, ()), a6, (), (), (), (), (), (), (), ())) fun val => if val.1 = true then if (0 : Int) ≤ IntKind.wrap IntKind.i64 (IntKind.wrap IntKind.i64 (IntKind.wrap IntKind.i64 ((2 : Int) * a1) + (1 : Int)) + (1 : Int)) ∧ IntKind.wrap IntKind.i64 (IntKind.wrap IntKind.i64 (IntKind.wrap IntKind.i64 ((2 : Int) * a1) + (1 : Int)) + (1 : Int)) < (↑(List.length a10) : Int) then if Int.toNat (IntKind.wrap IntKind.i64 (IntKind.wrap IntKind.i64 (IntKind.wrap IntKind.i64 ((2 : Int) * a1) + (1 : Int)) + (1 : Int))) < List.length a10 then if (0 : Int) ≤ a1 ∧ a1 < (↑(List.length a10) : Int) then if Int.toNat a1 < List.length a10 then Option.bind (F22 (List.getD a10 (Int.toNat (IntKind.wrap IntKind.i64 (IntKind.wrap IntKind.i64 (IntKind.wrap IntKind.i64 ((2 : Int) * a1) + (1 : Int)) + (1 : Int)))) (0 : Int), List.getD a10 (Int.toNat a1) (0 : Int), (), ()) (((), ()), (a2, (), (), (), (), a3, a4, a5, ()), a6, (), (), (), (), (), (), (), ())) fun val => if (!val.1) = true then some ((), (((), ()), (), (), ()), ((), ()), (a2, (), (), (), (), a3, a4, a5, ()), a6, a7, (((), ()), (), (), ()), a8, a9, a10, a11, ()) else Option.bind (F45b ((), a1, IntKind.wrap IntKind.i64 (IntKind.wrap IntKind.i64 (IntKind.wrap IntKind.i64 ((2 : Int) * a1) + (1 : Int)) + (1 : Int)), ()) ((((), ()), (), (), ()), ((), ()), (a2, (), (), (), (), a3, a4, a5, ()), a6, a7, (((), ()), (), (), ()), a8, a9, a10, a11, ())) fun val => L46b_0 k ((), IntKind.wrap IntKind.i64 (IntKind.wrap IntKind.i64 (IntKind.wrap IntKind.i64 ((2 : Int) * a1) + (1 : Int)) + (1 : Int)), ()) ((((), ()), (), (), ()), ((), ()), (val.2.2.2.1.1, (), (), (), (), val.2.2.2.1.2.2.2.2.2.1, val.2.2.2.1.2.2.2.2.2.2.1, val.2.2.2.1.2.2.2.2.2.2.2.1, ()), val.2.2.2.2.1, val.2.2.2.2.2.1, (((), ()), (), (), ()), val.2.2.2.2.2.2.2.1, val.2.2.2.2.2.2.2.2.1, val.2.2.2.2.2.2.2.2.2.1, val.2.2.2.2.2.2.2.2.2.2.1, ()) else none else none else none else none else if (0 : Int) ≤ IntKind.wrap IntKind.i64 (IntKind.wrap IntKind.i64 ((2 : Int) * a1) + (1 : Int)) ∧ IntKind.wrap IntKind.i64 (IntKind.wrap IntKind.i64 ((2 : Int) * a1) + (1 : Int)) < (↑(List.length a10) : Int) then if Int.toNat (IntKind.wrap IntKind.i64 (IntKind.wrap IntKind.i64 ((2 : Int) * a1) + (1 : Int))) < List.length a10 then if (0 : Int) ≤ a1 ∧ a1 < (↑(List.length a10) : Int) then if Int.toNat a1 < List.length a10 then Option.bind (F22 (List.getD a10 (Int.toNat (IntKind.wrap IntKind.i64 (IntKind.wrap IntKind.i64 ((2 : Int) * a1) + (1 : Int)))) (0 : Int), List.getD a10 (Int.toNat a1) (0 : Int), (), ()) (((), ()), (a2, (), (), (), (), a3, a4, a5, ()), a6, (), (), (), (), (), (), (), ())) fun val => if (!val.1) = true then some ((), (((), ()), (), (), ()), ((), ()), (a2, (), (), (), (), a3, a4, a5, ()), a6, a7, (((), ()), (), (), ()), a8, a9, a10, a11, ()) else Option.bind (F45b ((), a1, IntKind.wrap IntKind.i64 (IntKind.wrap IntKind.i64 ((2 : Int) * a1) + (1 : Int)), ()) ((((), ()), (), (), ()), ((), ()), (a2, (), (), (), (), a3, a4, a5, ()), a6, a7, (((), ()), (), (), ()), a8, a9, a10, a11, ())) fun val => L46b_0 k ((), IntKind.wrap IntKind.i64 (IntKind.wrap IntKind.i64 ((2 : Int) * a1) + (1 : Int)), ()) ((((), ()), (), (), ()), ((), ()), (val.2.2.2.1.1, (), (), (), (), val.2.2.2.1.2.2.2.2.2.1, val.2.2.2.1.2.2.2.2.2.2.1, val.2.2.2.1.2.2.2.2.2.2.2.1, ()), val.2.2.2.2.1, val.2.2.2.2.2.1, (((), ()), (), (), ()), val.2.2.2.2.2.2.2.1, val.2.2.2.2.2.2.2.2.1, val.2.2.2.2.2.2.2.2.2.1, val.2.2.2.2.2.2.2.2.2.2.1, ()) else none else none else none else none else none else none else none else none else if (0 : Int) ≤ IntKind.wrap IntKind.i64 (IntKind.wrap IntKind.i64 ((2 : Int) * a1) + (1 : Int)) ∧ IntKind.wrap IntKind.i64 (IntKind.wrap IntKind.i64 ((2 : Int) * a1) + (1 : Int)) < (↑(List.length a10) : Int) then if Int.toNat (IntKind.wrap IntKind.i64 (IntKind.wrap IntKind.i64 ((2 : Int) * a1) + (1 : Int))) < List.length a10 then if (0 : Int) ≤ a1 ∧ a1 < (↑(List.length a10) : Int) then if Int.toNat a1 < List.length a10 then Option.bind (F22 (List.getD a10 (Int.toNat (IntKind.wrap IntKind.i64 (IntKind.wrap IntKind.i64 ((2 : Int) * a1) + (1 : Int)))) (0 : Int), List.getD a10 (Int.toNat a1) (0 : Int), (), ()) (((), ()), (a2, (), (), (), (), a3, a4, a5, ()), a6, (), (), (), (), (), (), (), ())) fun val => if (!val.1) = true then some ((), (((), ()), (), (), ()), ((), ()), (a2, (), (), (), (), a3, a4, a5, ()), a6, a7, (((), ()), (), (), ()), a8, a9, a10, a11, ()) else Option.bind (F45b ((), a1, IntKind.wrap IntKind.i64 (IntKind.wrap IntKind.i64 ((2 : Int) * a1) + (1 : Int)), ()) ((((), ()), (), (), ()), ((), ()), (a2, (), (), (), (), a3, a4, a5, ()), a6, a7, (((), ()), (), (), ()), a8, a9, a10, a11, ())) fun val => L46b_0 k ((), IntKind.wrap IntKind.i64 (IntKind.wrap IntKind.i64 ((2 : Int) * a1) + (1 : Int)), ()) ((((), ()), (), (), ()), ((), ()), (val.2.2.2.1.1, (), (), (), (), val.2.2.2.1.2.2.2.2.2.1, val.2.2.2.1.2.2.2.2.2.2.1, val.2.2.2.1.2.2.2.2.2.2.2.1, ()), val.2.2.2.2.1, val.2.2.2.2.2.1, (((), ()), (), (), ()), val.2.2.2.2.2.2.2.1, val.2.2.2.2.2.2.2.2.1, val.2.2.2.2.2.2.2.2.2.1, val.2.2.2.2.2.2.2.2.2.2.1, ()) else none else none else none else none
def F46b (k : Nat) : pin46b.T → OPL.T os46b → Option (AT alts46b)
  | ((), (a1, ())), ((((), ()), ((), ((), ()))), (((), ()), ((a2, ((), ((), ((), ((), (a3, (a4, (a5, ())))))))), (a6, (a7, ((((), ()), ((), ((), ()))), (a8, (a9, (a10, (a11, ())))))))))) =>
    L46b_0 k ((), a1, ()) ((((), ()), (), (), ()), ((), ()), (a2, (), (), (), (), a3, a4, a5, ()), a6, a7, (((), ()), (), (), ()), a8, a9, a10, a11, ())
noncomputable def T46b : List (Entry Try.prog) := [E45b, E22]
noncomputable def cuts46b : List (Cut (AT alts46b)) := [⟨0, [0, 1], ps46b_0, os46b_0, L46b_0⟩]
theorem s46b_0 : ∀ k x y, L46b_0 (k + 1) x y = roundJ Try.prog (tableJ (T46b)) (Lof 10 k (cuts46b)) 0 body46b (endJ Try.prog 10 [] alts46b) (stAt [0, 1] ps46b_0 os46b_0 x y) := by
  intro k x y; kernel_rfl
theorem e46b (k : Nat) : ∀ x y, F46b k x y = codeJ Try.prog (tableJ (T46b)) (Lof 10 k (cuts46b)) body46b (st0 pin46b os46b x y) (endJ Try.prog 10 [] alts46b) := by
  intro x y; kernel_rfl
theorem k46b (k : Nat) : FnOK Try.prog 46 pin46b os46b alts46b (F46b k) :=
  fn_ok (fn := Try.f46) (body := body46b) (cuts := cuts46b) (k := k) (C := tableJ (T46b)) (C' := tableJ (T46b)) (table_ok _) (table_nat _) (table_ok _) mixed (by kernel_rfl) (by kernel_rfl) (by decide) (by kernel_rfl) (fun x => Nat.le_of_ble_eq_true (by kernel_rfl))
    (List.forall_mem_cons.2 ⟨fun x y => rfl, fun c h => by cases h⟩) (List.forall_mem_cons.2 ⟨s46b_0, fun c h => by cases h⟩) (e46b k)
noncomputable def E46b (k : Nat) : Entry Try.prog := ⟨46, pin46b, os46b, alts46b, F46b k, k46b k, rfl⟩
abbrev pin27b : VPL := (.cons (.ptr 0 0) (.cons (.int .i64) .nil))
abbrev os27b : List OP := oo5
abbrev alts27b : List Alt := [(.tup .nil, oo1)]
abbrev ps27b_0 : VPL := (.cons (.ptr 0 0) (.cons (.int .i64) .nil))
abbrev os27b_0 : List OP := oo1
noncomputable def body27b : Code := match Try.f27.body with
  | some c => c
  | none => .skip
def L27b_0 (K : Nat) : Nat → ps27b_0.T → OPL.T os27b_0 → Option (AT alts27b)
  | 0, _, _ => none
  | k + 1, ((), (a1, ())), ((((), ()), ((), ((), ()))), (((), ()), ((a2, ((), ((), ((), ((), (a3, (a4, (a5, ())))))))), ((), ((), ((((), ()), ((), ((), ()))), ((), ((), ((), ((), (a6, (a7, (a8, (a9, (a10, (a11, ())))))))))))))))) =>
    if decide ((↑(List.length a7) : Int) ≤ a1) = true then if (List.length a7 + (1 : Nat)) * (8 : Nat) ≤ (140737488355328 : Nat) then (L27b_0 K) k ((), a1, ()) ((((), ()), (), (), ()), ((), ()), (a2, (), (), (), (), a3, a4, a5, ()), (), (), (((), ()), (), (), ()), (), (), (), (), a6, a7 ++ [(0 : Int)], a8, a9, a10, a11, ()) else none else if (0 : Int) ≤ a1 ∧ a1 < (↑(List.length a7) : Int) then if Int.toNat a1 < List.length a7 then if (List.length a6 + (1 : Nat)) * (8 : Nat) ≤ (140737488355328 : Nat) then if (0 : Int) ≤ a1 ∧ a1 < (↑(List.length (List.set a7 (Int.toNat a1) (↑(List.length a6) : Int))) : Int) then if Int.toNat a1 < List.length (List.set a7 (Int.toNat a1) (↑(List.length a6) : Int)) then Option.bind ((F41b K) ((), List.getD (List.set a7 (Int.toNat a1) (↑(List.length a6) : Int)) (Int.toNat a1) (0 : Int), ()) ((((), ()), (), (), ()), ((), ()), (a2, (), (), (), (), a3, a4, a5, ()), a8, a9, (((), ()), (), (), ()), a10, a11, a6 ++ [a1], List.set a7 (Int.toNat a1) (↑(List.length a6) : Int), ())) fun val => some ((), (((), ()), (), (), ()), ((), ()), (val.2.2.2.1.1, (), (), (), (), val.2.2.2.1.2.2.2.2.2.1, val.2.2.2.1.2.2.2.2.2.2.1, val.2.2.2.1.2.2.2.2.2.2.2.1, ()), (), (), (((), ()), (), (), ()), (), (), (), (), val.2.2.2.2.2.2.2.2.2.1, val.2.2.2.2.2.2.2.2.2.2.1, val.2.2.2.2.1, val.2.2.2.2.2.1, val.2.2.2.2.2.2.2.1, val.2.2.2.2.2.2.2.2.1, ()) else none else none else none else none else none
def F27b (k : Nat) : pin27b.T → OPL.T os27b → Option (AT alts27b)
  | ((), (a1, ())), ((((), ()), ((), ((), ()))), (((), ()), ((a2, ((), ((), ((), ((), (a3, (a4, (a5, ())))))))), (a6, (a7, ((((), ()), ((), ((), ()))), (a8, (a9, (a10, (a11, ())))))))))) =>
    (L27b_0 k) k ((), a1, ()) ((((), ()), (), (), ()), ((), ()), (a2, (), (), (), (), a3, a4, a5, ()), (), (), (((), ()), (), (), ()), (), (), (), (), a10, a11, a6, a7, a8, a9, ())
noncomputable def T27b (K : Nat) : List (Entry Try.prog) := [E41b K]
noncomputable def cuts27b (K : Nat) : List (Cut (AT alts27b)) := [⟨0, [0, 1], ps27b_0, os27b_0, L27b_0 K⟩]
theorem s27b_0 (K : Nat) : ∀ k x y, L27b_0 K (k + 1) x y = roundJ Try.prog (tableJ (T27b K)) (Lof 10 k (cuts27b K)) 0 body27b (endJ Try.prog 10 [] alts27b) (stAt [0, 1] ps27b_0 os27b_0 x y) := by
  intro k x y; kernel_rfl
theorem e27b (k : Nat) : ∀ x y, F27b k x y = codeJ Try.prog (tableJ (T27b k)) (Lof 10 k (cuts27b k)) body27b (st0M pin27b os27b x y) (endJ Try.prog 10 [] alts27b) := by
  intro x y; kernel_rfl
theorem k27b (k : Nat) : FnOK Try.prog 27 pin27b os27b alts27b (F27b k) :=
  fn_okM (fn := Try.f27) (body := body27b) (cuts := cuts27b k) (k := k) (C := tableJ (T27b k)) (C' := tableJ (T27b k)) (table_ok _) (table_nat _) (table_ok _) mixed (by kernel_rfl) (by kernel_rfl) (by decide) (by kernel_rfl) (fun x => Nat.le_of_ble_eq_true (by kernel_rfl))
    (List.forall_mem_cons.2 ⟨fun x y => rfl, fun c h => by cases h⟩) (List.forall_mem_cons.2 ⟨s27b_0 k, fun c h => by cases h⟩) (e27b k)
noncomputable def E27b (k : Nat) : Entry Try.prog := ⟨27, pin27b, os27b, alts27b, F27b k, k27b k, rfl⟩
abbrev pin42b : VPL := (.cons (.ptr 0 0) (.cons (.int .i64) .nil))
abbrev os42b : List OP := oo5
abbrev alts42b : List Alt := [(.tup .nil, oo1)]
noncomputable def body42b : Code := match Try.f42.body with
  | some c => c
  | none => .skip
def F42b (k : Nat) : pin42b.T → OPL.T os42b → Option (AT alts42b)
  | ((), (a1, ())), ((((), ()), ((), ((), ()))), (((), ()), ((a2, ((), ((), ((), ((), (a3, (a4, (a5, ())))))))), (a6, (a7, ((((), ()), ((), ((), ()))), (a8, (a9, (a10, (a11, ())))))))))) =>
    if (0 : Int) ≤ a1 ∧ a1 < (↑(List.length a11) : Int) then if Int.toNat a1 < List.length a11 then Option.bind (F45b ((), List.getD a11 (Int.toNat a1) (0 : Int), IntKind.wrap IntKind.i64 ((↑(List.length a10) : Int) - (1 : Int)), ()) ((((), ()), (), (), ()), ((), ()), (a2, (), (), (), (), a3, a4, a5, ()), a6, a7, (((), ()), (), (), ()), a8, a9, a10, a11, ())) fun val => if (0 : Int) ≤ IntKind.wrap IntKind.i64 ((↑(List.length a10) : Int) - (1 : Int)) ∧ IntKind.wrap IntKind.i64 ((↑(List.length a10) : Int) - (1 : Int)) ≤ (↑(List.length val.2.2.2.2.2.2.2.2.2.1) : Int) then if decide (List.getD a11 (Int.toNat a1) (0 : Int) < IntKind.wrap IntKind.i64 ((↑(List.length a10) : Int) - (1 : Int))) = true then Option.bind ((F41b k) ((), List.getD a11 (Int.toNat a1) (0 : Int), ()) ((((), ()), (), (), ()), ((), ()), (val.2.2.2.1.1, (), (), (), (), val.2.2.2.1.2.2.2.2.2.1, val.2.2.2.1.2.2.2.2.2.2.1, val.2.2.2.1.2.2.2.2.2.2.2.1, ()), val.2.2.2.2.1, val.2.2.2.2.2.1, (((), ()), (), (), ()), val.2.2.2.2.2.2.2.1, val.2.2.2.2.2.2.2.2.1, List.take (Int.toNat (IntKind.wrap IntKind.i64 ((↑(List.length a10) : Int) - (1 : Int))) - (0 : Nat)) (List.drop (0 : Nat) val.2.2.2.2.2.2.2.2.2.1), val.2.2.2.2.2.2.2.2.2.2.1, ())) fun val => Option.bind ((F46b k) ((), List.getD a11 (Int.toNat a1) (0 : Int), ()) ((((), ()), (), (), ()), ((), ()), (val.2.2.2.1.1, (), (), (), (), val.2.2.2.1.2.2.2.2.2.1, val.2.2.2.1.2.2.2.2.2.2.1, val.2.2.2.1.2.2.2.2.2.2.2.1, ()), val.2.2.2.2.1, val.2.2.2.2.2.1, (((), ()), (), (), ()), val.2.2.2.2.2.2.2.1, val.2.2.2.2.2.2.2.2.1, val.2.2.2.2.2.2.2.2.2.1, val.2.2.2.2.2.2.2.2.2.2.1, ())) fun val => some ((), (((), ()), (), (), ()), ((), ()), (val.2.2.2.1.1, (), (), (), (), val.2.2.2.1.2.2.2.2.2.1, val.2.2.2.1.2.2.2.2.2.2.1, val.2.2.2.1.2.2.2.2.2.2.2.1, ()), (), (), (((), ()), (), (), ()), (), (), (), (), val.2.2.2.2.2.2.2.2.2.1, val.2.2.2.2.2.2.2.2.2.2.1, val.2.2.2.2.1, val.2.2.2.2.2.1, val.2.2.2.2.2.2.2.1, val.2.2.2.2.2.2.2.2.1, ()) else some ((), (((), ()), (), (), ()), ((), ()), (val.2.2.2.1.1, (), (), (), (), val.2.2.2.1.2.2.2.2.2.1, val.2.2.2.1.2.2.2.2.2.2.1, val.2.2.2.1.2.2.2.2.2.2.2.1, ()), (), (), (((), ()), (), (), ()), (), (), (), (), List.take (Int.toNat (IntKind.wrap IntKind.i64 ((↑(List.length a10) : Int) - (1 : Int))) - (0 : Nat)) (List.drop (0 : Nat) val.2.2.2.2.2.2.2.2.2.1), val.2.2.2.2.2.2.2.2.2.2.1, val.2.2.2.2.1, val.2.2.2.2.2.1, val.2.2.2.2.2.2.2.1, val.2.2.2.2.2.2.2.2.1, ()) else none else none else none
noncomputable def T42b (K : Nat) : List (Entry Try.prog) := [E41b K, E45b, E46b K]
noncomputable def cuts42b (K : Nat) : List (Cut (AT alts42b)) := []
theorem e42b (k : Nat) : ∀ x y, F42b k x y = codeJ Try.prog (tableJ (T42b k)) (Lof 10 k (cuts42b k)) body42b (st0M pin42b os42b x y) (endJ Try.prog 10 [] alts42b) := by
  intro x y; kernel_rfl
theorem k42b (k : Nat) : FnOK Try.prog 42 pin42b os42b alts42b (F42b k) :=
  fn_okM (fn := Try.f42) (body := body42b) (cuts := cuts42b k) (k := k) (C := tableJ (T42b k)) (C' := tableJ (T42b k)) (table_ok _) (table_nat _) (table_ok _) mixed (by kernel_rfl) (by kernel_rfl) (by decide) (by kernel_rfl) (fun x => Nat.le_of_ble_eq_true (by kernel_rfl))
    (fun c h => by cases h) (fun c h => by cases h) (e42b k)
noncomputable def E42b (k : Nat) : Entry Try.prog := ⟨42, pin42b, os42b, alts42b, F42b k, k42b k, rfl⟩
abbrev pin45w : VPL := (.cons (.ptr 0 0) (.cons (.int .i64) (.cons (.int .i64) .nil)))
abbrev os45w : List OP := oo6
abbrev alts45w : List Alt := [(.tup .nil, oo6)]
noncomputable def body45w : Code := match Try.f45.body with
  | some c => c
  | none => .skip
def F45w : pin45w.T → OPL.T os45w → Option (AT alts45w)
  | ((), (a1, (a2, ()))), ((((), ()), ((), ((), ()))), (((), ()), ((a3, ((), ((), ((), ((), (a4, (a5, (a6, ())))))))), (a7, (a8, ((((), ()), ((), ((), ()))), (a9, (a10, (a11, (a12, ())))))))))) =>
    if (0 : Int) ≤ a2 ∧ a2 < (↑(List.length a11) : Int) then if Int.toNat a2 < List.length a11 then if (0 : Int) ≤ a1 ∧ a1 < (↑(List.length a11) : Int) then if Int.toNat a1 < List.length a11 then if (0 : Int) ≤ a1 ∧ a1 < (↑(List.length a11) : Int) then if Int.toNat a1 < List.length a11 then if (0 : Int) ≤ a2 ∧ a2 < (↑(List.length (List.set a11 (Int.toNat a1) (List.getD a11 (Int.toNat a2) (0 : Int)))) : Int) then if Int.toNat a2 < List.length (List.set a11 (Int.toNat a1) (List.getD a11 (Int.toNat a2) (0 : Int))) then if (0 : Int) ≤ a1 ∧ a1 < (↑(List.length (List.set (List.set a11 (Int.toNat a1) (List.getD a11 (Int.toNat a2) (0 : Int))) (Int.toNat a2) (List.getD a11 (Int.toNat a1) (0 : Int)))) : Int) then if Int.toNat a1 < List.length (List.set (List.set a11 (Int.toNat a1) (List.getD a11 (Int.toNat a2) (0 : Int))) (Int.toNat a2) (List.getD a11 (Int.toNat a1) (0 : Int))) then if (0 : Int) ≤ a2 ∧ a2 < (↑(List.length (List.set (List.set a11 (Int.toNat a1) (List.getD a11 (Int.toNat a2) (0 : Int))) (Int.toNat a2) (List.getD a11 (Int.toNat a1) (0 : Int)))) : Int) then if Int.toNat a2 < List.length (List.set (List.set a11 (Int.toNat a1) (List.getD a11 (Int.toNat a2) (0 : Int))) (Int.toNat a2) (List.getD a11 (Int.toNat a1) (0 : Int))) then if (0 : Int) ≤ List.getD (List.set (List.set a11 (Int.toNat a1) (List.getD a11 (Int.toNat a2) (0 : Int))) (Int.toNat a2) (List.getD a11 (Int.toNat a1) (0 : Int))) (Int.toNat a1) (0 : Int) ∧ List.getD (List.set (List.set a11 (Int.toNat a1) (List.getD a11 (Int.toNat a2) (0 : Int))) (Int.toNat a2) (List.getD a11 (Int.toNat a1) (0 : Int))) (Int.toNat a1) (0 : Int) < (↑(List.length a12) : Int) then if Int.toNat (List.getD (List.set (List.set a11 (Int.toNat a1) (List.getD a11 (Int.toNat a2) (0 : Int))) (Int.toNat a2) (List.getD a11 (Int.toNat a1) (0 : Int))) (Int.toNat a1) (0 : Int)) < List.length a12 then if (0 : Int) ≤ List.getD (List.set (List.set a11 (Int.toNat a1) (List.getD a11 (Int.toNat a2) (0 : Int))) (Int.toNat a2) (List.getD a11 (Int.toNat a1) (0 : Int))) (Int.toNat a2) (0 : Int) ∧ List.getD (List.set (List.set a11 (Int.toNat a1) (List.getD a11 (Int.toNat a2) (0 : Int))) (Int.toNat a2) (List.getD a11 (Int.toNat a1) (0 : Int))) (Int.toNat a2) (0 : Int) < (↑(List.length (List.set a12 (Int.toNat (List.getD (List.set (List.set a11 (Int.toNat a1) (List.getD a11 (Int.toNat a2) (0 : Int))) (Int.toNat a2) (List.getD a11 (Int.toNat a1) (0 : Int))) (Int.toNat a1) (0 : Int))) a1)) : Int) then if Int.toNat (List.getD (List.set (List.set a11 (Int.toNat a1) (List.getD a11 (Int.toNat a2) (0 : Int))) (Int.toNat a2) (List.getD a11 (Int.toNat a1) (0 : Int))) (Int.toNat a2) (0 : Int)) < List.length (List.set a12 (Int.toNat (List.getD (List.set (List.set a11 (Int.toNat a1) (List.getD a11 (Int.toNat a2) (0 : Int))) (Int.toNat a2) (List.getD a11 (Int.toNat a1) (0 : Int))) (Int.toNat a1) (0 : Int))) a1) then some ((), (((), ()), (), (), ()), ((), ()), (a3, (), (), (), (), a4, a5, a6, ()), a7, a8, (((), ()), (), (), ()), a9, a10, List.set (List.set a11 (Int.toNat a1) (List.getD a11 (Int.toNat a2) (0 : Int))) (Int.toNat a2) (List.getD a11 (Int.toNat a1) (0 : Int)), List.set (List.set a12 (Int.toNat (List.getD (List.set (List.set a11 (Int.toNat a1) (List.getD a11 (Int.toNat a2) (0 : Int))) (Int.toNat a2) (List.getD a11 (Int.toNat a1) (0 : Int))) (Int.toNat a1) (0 : Int))) a1) (Int.toNat (List.getD (List.set (List.set a11 (Int.toNat a1) (List.getD a11 (Int.toNat a2) (0 : Int))) (Int.toNat a2) (List.getD a11 (Int.toNat a1) (0 : Int))) (Int.toNat a2) (0 : Int))) a2, ()) else none else none else none else none else none else none else none else none else none else none else none else none else none else none else none else none
noncomputable def T45w : List (Entry Try.prog) := []
noncomputable def cuts45w : List (Cut (AT alts45w)) := []
theorem e45w : ∀ x y, F45w x y = codeJ Try.prog (tableJ (T45w)) (Lof 10 0 (cuts45w)) body45w (st0 pin45w os45w x y) (endJ Try.prog 10 [] alts45w) := by
  intro x y; kernel_rfl
theorem k45w : FnOK Try.prog 45 pin45w os45w alts45w (F45w) :=
  fn_ok (fn := Try.f45) (body := body45w) (cuts := cuts45w) (k := 0) (C := tableJ (T45w)) (C' := tableJ (T45w)) (table_ok _) (table_nat _) (table_ok _) mixed (by kernel_rfl) (by kernel_rfl) (by decide) (by kernel_rfl) (fun x => Nat.le_of_ble_eq_true (by kernel_rfl))
    (fun c h => by cases h) (fun c h => by cases h) (e45w)
noncomputable def E45w : Entry Try.prog := ⟨45, pin45w, os45w, alts45w, F45w, k45w, rfl⟩
abbrev pin41w : VPL := (.cons (.ptr 0 0) (.cons (.int .i64) .nil))
abbrev os41w : List OP := oo6
abbrev alts41w : List Alt := [(.tup .nil, oo6)]
abbrev ps41w_0 : VPL := (.cons (.ptr 0 0) (.cons (.int .i64) .nil))
abbrev os41w_0 : List OP := oo6
noncomputable def body41w : Code := match Try.f41.body with
  | some c => c
  | none => .skip
def L41w_0 : Nat → ps41w_0.T → OPL.T os41w_0 → Option (AT alts41w)
  | 0, _, _ => none
  | k + 1, ((), (a1, ())), ((((), ()), ((), ((), ()))), (((), ()), ((a2, ((), ((), ((), ((), (a3, (a4, (a5, ())))))))), (a6, (a7, ((((), ()), ((), ((), ()))), (a8, (a9, (a10, (a11, ())))))))))) =>
    if decide ((0 : Int) < a1) = true then if (0 : Int) ≤ a1 ∧ a1 < (↑(List.length a10) : Int) then if Int.toNat a1 < List.length a10 then if (0 : Int) ≤ IntKind.wrap IntKind.i64 (Int.tdiv (IntKind.wrap IntKind.i64 (a1 - (1 : Int))) (2 : Int)) ∧ IntKind.wrap IntKind.i64 (Int.tdiv (IntKind.wrap IntKind.i64 (a1 - (1 : Int))) (2 : Int)) < (↑(List.length a10) : Int) then if Int.toNat (IntKind.wrap IntKind.i64 (Int.tdiv (IntKind.wrap IntKind.i64 (a1 - (1 : Int))) (2 : Int))) < List.length a10 then Option.bind (F24 (List.getD a10 (Int.toNat a1) (0 : Int), List.getD a10 (Int.toNat (IntKind.wrap IntKind.i64 (Int.tdiv (IntKind.wrap IntKind.i64 (a1 - (1 : Int))) (2 : Int)))) (0 : Int), (), ()) (((), ()), (a2, (), (), (), (), a3, a4, a5, ()), a6, (), (), (), (), (), (), (), ())) fun val => if val.1 = true then Option.bind (F45w ((), a1, IntKind.wrap IntKind.i64 (Int.tdiv (IntKind.wrap IntKind.i64 (a1 - (1 : Int))) (2 : Int)), ()) ((((), ()), (), (), ()), ((), ()), (a2, (), (), (), (), a3, a4, a5, ()), a6, a7, (((), ()), (), (), ()), a8, a9, a10, a11, ())) fun val => L41w_0 k ((), IntKind.wrap IntKind.i64 (Int.tdiv (IntKind.wrap IntKind.i64 (a1 - (1 : Int))) (2 : Int)), ()) ((((), ()), (), (), ()), ((), ()), (val.2.2.2.1.1, (), (), (), (), val.2.2.2.1.2.2.2.2.2.1, val.2.2.2.1.2.2.2.2.2.2.1, val.2.2.2.1.2.2.2.2.2.2.2.1, ()), val.2.2.2.2.1, val.2.2.2.2.2.1, (((), ()), (), (), ()), val.2.2.2.2.2.2.2.1, val.2.2.2.2.2.2.2.2.1, val.2.2.2.2.2.2.2.2.2.1, val.2.2.2.2.2.2.2.2.2.2.1, ()) else some ((), (((), ()), (), (), ()), ((), ()), (a2, (), (), (), (), a3, a4, a5, ()), a6, a7, (((), ()), (), (), ()), a8, a9, a10, a11, ()) else none else none else none else none else some ((), (((), ()), (), (), ()), ((), ()), (a2, (), (), (), (), a3, a4, a5, ()), a6, a7, (((), ()), (), (), ()), a8, a9, a10, a11, ())
def F41w (k : Nat) : pin41w.T → OPL.T os41w → Option (AT alts41w)
  | ((), (a1, ())), ((((), ()), ((), ((), ()))), (((), ()), ((a2, ((), ((), ((), ((), (a3, (a4, (a5, ())))))))), (a6, (a7, ((((), ()), ((), ((), ()))), (a8, (a9, (a10, (a11, ())))))))))) =>
    L41w_0 k ((), a1, ()) ((((), ()), (), (), ()), ((), ()), (a2, (), (), (), (), a3, a4, a5, ()), a6, a7, (((), ()), (), (), ()), a8, a9, a10, a11, ())
noncomputable def T41w : List (Entry Try.prog) := [E45w, E24]
noncomputable def cuts41w : List (Cut (AT alts41w)) := [⟨0, [0, 1], ps41w_0, os41w_0, L41w_0⟩]
theorem s41w_0 : ∀ k x y, L41w_0 (k + 1) x y = roundJ Try.prog (tableJ (T41w)) (Lof 10 k (cuts41w)) 0 body41w (endJ Try.prog 10 [] alts41w) (stAt [0, 1] ps41w_0 os41w_0 x y) := by
  intro k x y; kernel_rfl
theorem e41w (k : Nat) : ∀ x y, F41w k x y = codeJ Try.prog (tableJ (T41w)) (Lof 10 k (cuts41w)) body41w (st0 pin41w os41w x y) (endJ Try.prog 10 [] alts41w) := by
  intro x y; kernel_rfl
theorem k41w (k : Nat) : FnOK Try.prog 41 pin41w os41w alts41w (F41w k) :=
  fn_ok (fn := Try.f41) (body := body41w) (cuts := cuts41w) (k := k) (C := tableJ (T41w)) (C' := tableJ (T41w)) (table_ok _) (table_nat _) (table_ok _) mixed (by kernel_rfl) (by kernel_rfl) (by decide) (by kernel_rfl) (fun x => Nat.le_of_ble_eq_true (by kernel_rfl))
    (List.forall_mem_cons.2 ⟨fun x y => rfl, fun c h => by cases h⟩) (List.forall_mem_cons.2 ⟨s41w_0, fun c h => by cases h⟩) (e41w k)
noncomputable def E41w (k : Nat) : Entry Try.prog := ⟨41, pin41w, os41w, alts41w, F41w k, k41w k, rfl⟩
abbrev pin46w : VPL := (.cons (.ptr 0 0) (.cons (.int .i64) .nil))
abbrev os46w : List OP := oo6
abbrev alts46w : List Alt := [(.tup .nil, oo6)]
abbrev ps46w_0 : VPL := (.cons (.ptr 0 0) (.cons (.int .i64) .nil))
abbrev os46w_0 : List OP := oo6
noncomputable def body46w : Code := match Try.f46.body with
  | some c => c
  | none => .skip
def L46w_0 : Nat → ps46w_0.T → OPL.T os46w_0 → Option (AT alts46w)
  | 0, _, _ => none
  | k + 1, ((), (a1, ())), ((((), ()), ((), ((), ()))), (((), ()), ((a2, ((), ((), ((), ((), (a3, (a4, (a5, ())))))))), (a6, (a7, ((((), ()), ((), ((), ()))), (a8, (a9, (a10, (a11, ())))))))))) =>
    if decide ((↑(List.length a10) : Int) ≤ IntKind.wrap IntKind.i64 (IntKind.wrap IntKind.i64 ((2 : Int) * a1) + (1 : Int))) = true then some ((), (((), ()), (), (), ()), ((), ()), (a2, (), (), (), (), a3, a4, a5, ()), a6, a7, (((), ()), (), (), ()), a8, a9, a10, a11, ()) else if decide (IntKind.wrap IntKind.i64 (IntKind.wrap IntKind.i64 (IntKind.wrap IntKind.i64 ((2 : Int) * a1) + (1 : Int)) + (1 : Int)) < (↑(List.length a10) : Int)) = true then if (0 : Int) ≤ IntKind.wrap IntKind.i64 (IntKind.wrap IntKind.i64 (IntKind.wrap IntKind.i64 ((2 : Int) * a1) + (1 : Int)) + (1 : Int)) ∧ IntKind.wrap IntKind.i64 (IntKind.wrap IntKind.i64 (IntKind.wrap IntKind.i64 ((2 : Int) * a1) + (1 : Int)) + (1 : Int)) < (↑(List.length a10) : Int) then if Int.toNat (IntKind.wrap IntKind.i64 (IntKind.wrap IntKind.i64 (IntKind.wrap IntKind.i64 ((2 : Int) * a1) + (1 : Int)) + (1 : Int))) < List.length a10 then if (0 : Int) ≤ IntKind.wrap IntKind.i64 (IntKind.wrap IntKind.i64 ((2 : Int) * a1) + (1 : Int)) ∧ IntKind.wrap IntKind.i64 (IntKind.wrap IntKind.i64 ((2 : Int) * a1) + (1 : Int)) < (↑(List.length a10) : Int) then if Int.toNat (IntKind.wrap IntKind.i64 (IntKind.wrap IntKind.i64 ((2 : Int) * a1) + (1 : Int))) < List.length a10 then Option.bind (F24 (List.getD a10 (Int.toNat (IntKind.wrap IntKind.i64 (IntKind.wrap IntKind.i64 (IntKind.wrap IntKind.i64 ((2 : Int) * a1) + (1 : Int)) + (1 : Int)))) (0 : Int), List.getD a10 (Int.toNat (IntKind.wrap IntKind.i64 (IntKind.wrap IntKind.i64 ((2 : Int) * a1) + (1 : Int)))) (0 : Int), (), ()) (((), ()), (a2, (), (), (), (), a3, a4, a5, ()), a6, (), (), (), (), (), (), (), ())) fun val => if val.1 = true then if (0 : Int) ≤ IntKind.wrap IntKind.i64 (IntKind.wrap IntKind.i64 (IntKind.wrap IntKind.i64 ((2 : Int) * a1) + (1 : Int)) + (1 : Int)) ∧ IntKind.wrap IntKind.i64 (IntKind.wrap IntKind.i64 (IntKind.wrap IntKind.i64 ((2 : Int) * a1) + (1 : Int)) + (1 : Int)) < (↑(List.length a10) : Int) then if Int.toNat (IntKind.wrap IntKind.i64 (IntKind.wrap IntKind.i64 (IntKind.wrap IntKind.i64 ((2 : Int) * a1) + (1 : Int)) + (1 : Int))) < List.length a10 then if (0 : Int) ≤ a1 ∧ a1 < (↑(List.length a10) : Int) then if Int.toNat a1 < List.length a10 then Option.bind (F24 (List.getD a10 (Int.toNat (IntKind.wrap IntKind.i64 (IntKind.wrap IntKind.i64 (IntKind.wrap IntKind.i64 ((2 : Int) * a1) + (1 : Int)) + (1 : Int)))) (0 : Int), List.getD a10 (Int.toNat a1) (0 : Int), (), ()) (((), ()), (a2, (), (), (), (), a3, a4, a5, ()), a6, (), (), (), (), (), (), (), ())) fun val => if (!val.1) = true then some ((), (((), ()), (), (), ()), ((), ()), (a2, (), (), (), (), a3, a4, a5, ()), a6, a7, (((), ()), (), (), ()), a8, a9, a10, a11, ()) else Option.bind (F45w ((), a1, IntKind.wrap IntKind.i64 (IntKind.wrap IntKind.i64 (IntKind.wrap IntKind.i64 ((2 : Int) * a1) + (1 : Int)) + (1 : Int)), ()) ((((), ()), (), (), ()), ((), ()), (a2, (), (), (), (), a3, a4, a5, ()), a6, a7, (((), ()), (), (), ()), a8, a9, a10, a11, ())) fun val => L46w_0 k ((), IntKind.wrap IntKind.i64 (IntKind.wrap IntKind.i64 (IntKind.wrap IntKind.i64 ((2 : Int) * a1) + (1 : Int)) + (1 : Int)), ()) ((((), ()), (), (), ()), ((), ()), (val.2.2.2.1.1, (), (), (), (), val.2.2.2.1.2.2.2.2.2.1, val.2.2.2.1.2.2.2.2.2.2.1, val.2.2.2.1.2.2.2.2.2.2.2.1, ()), val.2.2.2.2.1, val.2.2.2.2.2.1, (((), ()), (), (), ()), val.2.2.2.2.2.2.2.1, val.2.2.2.2.2.2.2.2.1, val.2.2.2.2.2.2.2.2.2.1, val.2.2.2.2.2.2.2.2.2.2.1, ()) else none else none else none else none else if (0 : Int) ≤ IntKind.wrap IntKind.i64 (IntKind.wrap IntKind.i64 ((2 : Int) * a1) + (1 : Int)) ∧ IntKind.wrap IntKind.i64 (IntKind.wrap IntKind.i64 ((2 : Int) * a1) + (1 : Int)) < (↑(List.length a10) : Int) then if Int.toNat (IntKind.wrap IntKind.i64 (IntKind.wrap IntKind.i64 ((2 : Int) * a1) + (1 : Int))) < List.length a10 then if (0 : Int) ≤ a1 ∧ a1 < (↑(List.length a10) : Int) then if Int.toNat a1 < List.length a10 then Option.bind (F24 (List.getD a10 (Int.toNat (IntKind.wrap IntKind.i64 (IntKind.wrap IntKind.i64 ((2 : Int) * a1) + (1 : Int)))) (0 : Int), List.getD a10 (Int.toNat a1) (0 : Int), (), ()) (((), ()), (a2, (), (), (), (), a3, a4, a5, ()), a6, (), (), (), (), (), (), (), ())) fun val => if (!val.1) = true then some ((), (((), ()), (), (), ()), ((), ()), (a2, (), (), (), (), a3, a4, a5, ()), a6, a7, (((), ()), (), (), ()), a8, a9, a10, a11, ()) else Option.bind (F45w ((), a1, IntKind.wrap IntKind.i64 (IntKind.wrap IntKind.i64 ((2 : Int) * a1) + (1 : Int)), ()) ((((), ()), (), (), ()), ((), ()), (a2, (), (), (), (), a3, a4, a5, ()), a6, a7, (((), ()), (), (), ()), a8, a9, a10, a11, ())) fun val => L46w_0 k ((), IntKind.wrap IntKind.i64 (IntKind.wrap IntKind.i64 ((2 : Int) * a1) + (1 : Int)), ()) ((((), ()), (), (), ()), ((), ()), (val.2.2.2.1.1, (), (), (), (), val.2.2.2.1.2.2.2.2.2.1, val.2.2.2.1.2.2.2.2.2.2.1, val.2.2.2.1.2.2.2.2.2.2.2.1, ()), val.2.2.2.2.1, val.2.2.2.2.2.1, (((), ()), (), (), ()), val.2.2.2.2.2.2.2.1, val.2.2.2.2.2.2.2.2.1, val.2.2.2.2.2.2.2.2.2.1, val.2.2.2.2.2.2.2.2.2.2.1, ()) else none else none else none else none else none else none else none else none else if (0 : Int) ≤ IntKind.wrap IntKind.i64 (IntKind.wrap IntKind.i64 ((2 : Int) * a1) + (1 : Int)) ∧ IntKind.wrap IntKind.i64 (IntKind.wrap IntKind.i64 ((2 : Int) * a1) + (1 : Int)) < (↑(List.length a10) : Int) then if Int.toNat (IntKind.wrap IntKind.i64 (IntKind.wrap IntKind.i64 ((2 : Int) * a1) + (1 : Int))) < List.length a10 then if (0 : Int) ≤ a1 ∧ a1 < (↑(List.length a10) : Int) then if Int.toNat a1 < List.length a10 then Option.bind (F24 (List.getD a10 (Int.toNat (IntKind.wrap IntKind.i64 (IntKind.wrap IntKind.i64 ((2 : Int) * a1) + (1 : Int)))) (0 : Int), List.getD a10 (Int.toNat a1) (0 : Int), (), ()) (((), ()), (a2, (), (), (), (), a3, a4, a5, ()), a6, (), (), (), (), (), (), (), ())) fun val => if (!val.1) = true then some ((), (((), ()), (), (), ()), ((), ()), (a2, (), (), (), (), a3, a4, a5, ()), a6, a7, (((), ()), (), (), ()), a8, a9, a10, a11, ()) else Option.bind (F45w ((), a1, IntKind.wrap IntKind.i64 (IntKind.wrap IntKind.i64 ((2 : Int) * a1) + (1 : Int)), ()) ((((), ()), (), (), ()), ((), ()), (a2, (), (), (), (), a3, a4, a5, ()), a6, a7, (((), ()), (), (), ()), a8, a9, a10, a11, ())) fun val => L46w_0 k ((), IntKind.wrap IntKind.i64 (IntKind.wrap IntKind.i64 ((2 : Int) * a1) + (1 : Int)), ()) ((((), ()), (), (), ()), ((), ()), (val.2.2.2.1.1, (), (), (), (), val.2.2.2.1.2.2.2.2.2.1, val.2.2.2.1.2.2.2.2.2.2.1, val.2.2.2.1.2.2.2.2.2.2.2.1, ()), val.2.2.2.2.1, val.2.2.2.2.2.1, (((), ()), (), (), ()), val.2.2.2.2.2.2.2.1, val.2.2.2.2.2.2.2.2.1, val.2.2.2.2.2.2.2.2.2.1, val.2.2.2.2.2.2.2.2.2.2.1, ()) else none else none else none else none
def F46w (k : Nat) : pin46w.T → OPL.T os46w → Option (AT alts46w)
  | ((), (a1, ())), ((((), ()), ((), ((), ()))), (((), ()), ((a2, ((), ((), ((), ((), (a3, (a4, (a5, ())))))))), (a6, (a7, ((((), ()), ((), ((), ()))), (a8, (a9, (a10, (a11, ())))))))))) =>
    L46w_0 k ((), a1, ()) ((((), ()), (), (), ()), ((), ()), (a2, (), (), (), (), a3, a4, a5, ()), a6, a7, (((), ()), (), (), ()), a8, a9, a10, a11, ())
noncomputable def T46w : List (Entry Try.prog) := [E45w, E24]
noncomputable def cuts46w : List (Cut (AT alts46w)) := [⟨0, [0, 1], ps46w_0, os46w_0, L46w_0⟩]
theorem s46w_0 : ∀ k x y, L46w_0 (k + 1) x y = roundJ Try.prog (tableJ (T46w)) (Lof 10 k (cuts46w)) 0 body46w (endJ Try.prog 10 [] alts46w) (stAt [0, 1] ps46w_0 os46w_0 x y) := by
  intro k x y; kernel_rfl
theorem e46w (k : Nat) : ∀ x y, F46w k x y = codeJ Try.prog (tableJ (T46w)) (Lof 10 k (cuts46w)) body46w (st0 pin46w os46w x y) (endJ Try.prog 10 [] alts46w) := by
  intro x y; kernel_rfl
theorem k46w (k : Nat) : FnOK Try.prog 46 pin46w os46w alts46w (F46w k) :=
  fn_ok (fn := Try.f46) (body := body46w) (cuts := cuts46w) (k := k) (C := tableJ (T46w)) (C' := tableJ (T46w)) (table_ok _) (table_nat _) (table_ok _) mixed (by kernel_rfl) (by kernel_rfl) (by decide) (by kernel_rfl) (fun x => Nat.le_of_ble_eq_true (by kernel_rfl))
    (List.forall_mem_cons.2 ⟨fun x y => rfl, fun c h => by cases h⟩) (List.forall_mem_cons.2 ⟨s46w_0, fun c h => by cases h⟩) (e46w k)
noncomputable def E46w (k : Nat) : Entry Try.prog := ⟨46, pin46w, os46w, alts46w, F46w k, k46w k, rfl⟩
abbrev pin27w : VPL := (.cons (.ptr 0 0) (.cons (.int .i64) .nil))
abbrev os27w : List OP := oo6
abbrev alts27w : List Alt := [(.tup .nil, oo2)]
abbrev ps27w_0 : VPL := (.cons (.ptr 0 0) (.cons (.int .i64) .nil))
abbrev os27w_0 : List OP := oo2
noncomputable def body27w : Code := match Try.f27.body with
  | some c => c
  | none => .skip
def L27w_0 (K : Nat) : Nat → ps27w_0.T → OPL.T os27w_0 → Option (AT alts27w)
  | 0, _, _ => none
  | k + 1, ((), (a1, ())), ((((), ()), ((), ((), ()))), (((), ()), ((a2, ((), ((), ((), ((), (a3, (a4, (a5, ())))))))), ((), ((), ((((), ()), ((), ((), ()))), ((), ((), ((), ((), (a6, (a7, (a8, (a9, (a10, (a11, ())))))))))))))))) =>
    if decide ((↑(List.length a7) : Int) ≤ a1) = true then if (List.length a7 + (1 : Nat)) * (8 : Nat) ≤ (140737488355328 : Nat) then (L27w_0 K) k ((), a1, ()) ((((), ()), (), (), ()), ((), ()), (a2, (), (), (), (), a3, a4, a5, ()), (), (), (((), ()), (), (), ()), (), (), (), (), a6, a7 ++ [(0 : Int)], a8, a9, a10, a11, ()) else none else if (0 : Int) ≤ a1 ∧ a1 < (↑(List.length a7) : Int) then if Int.toNat a1 < List.length a7 then if (List.length a6 + (1 : Nat)) * (8 : Nat) ≤ (140737488355328 : Nat) then if (0 : Int) ≤ a1 ∧ a1 < (↑(List.length (List.set a7 (Int.toNat a1) (↑(List.length a6) : Int))) : Int) then if Int.toNat a1 < List.length (List.set a7 (Int.toNat a1) (↑(List.length a6) : Int)) then Option.bind ((F41w K) ((), List.getD (List.set a7 (Int.toNat a1) (↑(List.length a6) : Int)) (Int.toNat a1) (0 : Int), ()) ((((), ()), (), (), ()), ((), ()), (a2, (), (), (), (), a3, a4, a5, ()), a8, a9, (((), ()), (), (), ()), a10, a11, a6 ++ [a1], List.set a7 (Int.toNat a1) (↑(List.length a6) : Int), ())) fun val => some ((), (((), ()), (), (), ()), ((), ()), (val.2.2.2.1.1, (), (), (), (), val.2.2.2.1.2.2.2.2.2.1, val.2.2.2.1.2.2.2.2.2.2.1, val.2.2.2.1.2.2.2.2.2.2.2.1, ()), (), (), (((), ()), (), (), ()), (), (), (), (), val.2.2.2.2.2.2.2.2.2.1, val.2.2.2.2.2.2.2.2.2.2.1, val.2.2.2.2.1, val.2.2.2.2.2.1, val.2.2.2.2.2.2.2.1, val.2.2.2.2.2.2.2.2.1, ()) else none else none else none else none else none
def F27w (k : Nat) : pin27w.T → OPL.T os27w → Option (AT alts27w)
  | ((), (a1, ())), ((((), ()), ((), ((), ()))), (((), ()), ((a2, ((), ((), ((), ((), (a3, (a4, (a5, ())))))))), (a6, (a7, ((((), ()), ((), ((), ()))), (a8, (a9, (a10, (a11, ())))))))))) =>
    (L27w_0 k) k ((), a1, ()) ((((), ()), (), (), ()), ((), ()), (a2, (), (), (), (), a3, a4, a5, ()), (), (), (((), ()), (), (), ()), (), (), (), (), a10, a11, a6, a7, a8, a9, ())
noncomputable def T27w (K : Nat) : List (Entry Try.prog) := [E41w K]
noncomputable def cuts27w (K : Nat) : List (Cut (AT alts27w)) := [⟨0, [0, 1], ps27w_0, os27w_0, L27w_0 K⟩]
theorem s27w_0 (K : Nat) : ∀ k x y, L27w_0 K (k + 1) x y = roundJ Try.prog (tableJ (T27w K)) (Lof 10 k (cuts27w K)) 0 body27w (endJ Try.prog 10 [] alts27w) (stAt [0, 1] ps27w_0 os27w_0 x y) := by
  intro k x y; kernel_rfl
theorem e27w (k : Nat) : ∀ x y, F27w k x y = codeJ Try.prog (tableJ (T27w k)) (Lof 10 k (cuts27w k)) body27w (st0M pin27w os27w x y) (endJ Try.prog 10 [] alts27w) := by
  intro x y; kernel_rfl
theorem k27w (k : Nat) : FnOK Try.prog 27 pin27w os27w alts27w (F27w k) :=
  fn_okM (fn := Try.f27) (body := body27w) (cuts := cuts27w k) (k := k) (C := tableJ (T27w k)) (C' := tableJ (T27w k)) (table_ok _) (table_nat _) (table_ok _) mixed (by kernel_rfl) (by kernel_rfl) (by decide) (by kernel_rfl) (fun x => Nat.le_of_ble_eq_true (by kernel_rfl))
    (List.forall_mem_cons.2 ⟨fun x y => rfl, fun c h => by cases h⟩) (List.forall_mem_cons.2 ⟨s27w_0 k, fun c h => by cases h⟩) (e27w k)
noncomputable def E27w (k : Nat) : Entry Try.prog := ⟨27, pin27w, os27w, alts27w, F27w k, k27w k, rfl⟩
abbrev pin42w : VPL := (.cons (.ptr 0 0) (.cons (.int .i64) .nil))
abbrev os42w : List OP := oo6
abbrev alts42w : List Alt := [(.tup .nil, oo2)]
noncomputable def body42w : Code := match Try.f42.body with
  | some c => c
  | none => .skip
def F42w (k : Nat) : pin42w.T → OPL.T os42w → Option (AT alts42w)
  | ((), (a1, ())), ((((), ()), ((), ((), ()))), (((), ()), ((a2, ((), ((), ((), ((), (a3, (a4, (a5, ())))))))), (a6, (a7, ((((), ()), ((), ((), ()))), (a8, (a9, (a10, (a11, ())))))))))) =>
    if (0 : Int) ≤ a1 ∧ a1 < (↑(List.length a11) : Int) then if Int.toNat a1 < List.length a11 then Option.bind (F45w ((), List.getD a11 (Int.toNat a1) (0 : Int), IntKind.wrap IntKind.i64 ((↑(List.length a10) : Int) - (1 : Int)), ()) ((((), ()), (), (), ()), ((), ()), (a2, (), (), (), (), a3, a4, a5, ()), a6, a7, (((), ()), (), (), ()), a8, a9, a10, a11, ())) fun val => if (0 : Int) ≤ IntKind.wrap IntKind.i64 ((↑(List.length a10) : Int) - (1 : Int)) ∧ IntKind.wrap IntKind.i64 ((↑(List.length a10) : Int) - (1 : Int)) ≤ (↑(List.length val.2.2.2.2.2.2.2.2.2.1) : Int) then if decide (List.getD a11 (Int.toNat a1) (0 : Int) < IntKind.wrap IntKind.i64 ((↑(List.length a10) : Int) - (1 : Int))) = true then Option.bind ((F41w k) ((), List.getD a11 (Int.toNat a1) (0 : Int), ()) ((((), ()), (), (), ()), ((), ()), (val.2.2.2.1.1, (), (), (), (), val.2.2.2.1.2.2.2.2.2.1, val.2.2.2.1.2.2.2.2.2.2.1, val.2.2.2.1.2.2.2.2.2.2.2.1, ()), val.2.2.2.2.1, val.2.2.2.2.2.1, (((), ()), (), (), ()), val.2.2.2.2.2.2.2.1, val.2.2.2.2.2.2.2.2.1, List.take (Int.toNat (IntKind.wrap IntKind.i64 ((↑(List.length a10) : Int) - (1 : Int))) - (0 : Nat)) (List.drop (0 : Nat) val.2.2.2.2.2.2.2.2.2.1), val.2.2.2.2.2.2.2.2.2.2.1, ())) fun val => Option.bind ((F46w k) ((), List.getD a11 (Int.toNat a1) (0 : Int), ()) ((((), ()), (), (), ()), ((), ()), (val.2.2.2.1.1, (), (), (), (), val.2.2.2.1.2.2.2.2.2.1, val.2.2.2.1.2.2.2.2.2.2.1, val.2.2.2.1.2.2.2.2.2.2.2.1, ()), val.2.2.2.2.1, val.2.2.2.2.2.1, (((), ()), (), (), ()), val.2.2.2.2.2.2.2.1, val.2.2.2.2.2.2.2.2.1, val.2.2.2.2.2.2.2.2.2.1, val.2.2.2.2.2.2.2.2.2.2.1, ())) fun val => some ((), (((), ()), (), (), ()), ((), ()), (val.2.2.2.1.1, (), (), (), (), val.2.2.2.1.2.2.2.2.2.1, val.2.2.2.1.2.2.2.2.2.2.1, val.2.2.2.1.2.2.2.2.2.2.2.1, ()), (), (), (((), ()), (), (), ()), (), (), (), (), val.2.2.2.2.2.2.2.2.2.1, val.2.2.2.2.2.2.2.2.2.2.1, val.2.2.2.2.1, val.2.2.2.2.2.1, val.2.2.2.2.2.2.2.1, val.2.2.2.2.2.2.2.2.1, ()) else some ((), (((), ()), (), (), ()), ((), ()), (val.2.2.2.1.1, (), (), (), (), val.2.2.2.1.2.2.2.2.2.1, val.2.2.2.1.2.2.2.2.2.2.1, val.2.2.2.1.2.2.2.2.2.2.2.1, ()), (), (), (((), ()), (), (), ()), (), (), (), (), List.take (Int.toNat (IntKind.wrap IntKind.i64 ((↑(List.length a10) : Int) - (1 : Int))) - (0 : Nat)) (List.drop (0 : Nat) val.2.2.2.2.2.2.2.2.2.1), val.2.2.2.2.2.2.2.2.2.2.1, val.2.2.2.2.1, val.2.2.2.2.2.1, val.2.2.2.2.2.2.2.1, val.2.2.2.2.2.2.2.2.1, ()) else none else none else none
noncomputable def T42w (K : Nat) : List (Entry Try.prog) := [E41w K, E45w, E46w K]
noncomputable def cuts42w (K : Nat) : List (Cut (AT alts42w)) := []
theorem e42w (k : Nat) : ∀ x y, F42w k x y = codeJ Try.prog (tableJ (T42w k)) (Lof 10 k (cuts42w k)) body42w (st0M pin42w os42w x y) (endJ Try.prog 10 [] alts42w) := by
  intro x y; kernel_rfl
theorem k42w (k : Nat) : FnOK Try.prog 42 pin42w os42w alts42w (F42w k) :=
  fn_okM (fn := Try.f42) (body := body42w) (cuts := cuts42w k) (k := k) (C := tableJ (T42w k)) (C' := tableJ (T42w k)) (table_ok _) (table_nat _) (table_ok _) mixed (by kernel_rfl) (by kernel_rfl) (by decide) (by kernel_rfl) (fun x => Nat.le_of_ble_eq_true (by kernel_rfl))
    (fun c h => by cases h) (fun c h => by cases h) (e42w k)
noncomputable def E42w (k : Nat) : Entry Try.prog := ⟨42, pin42w, os42w, alts42w, F42w k, k42w k, rfl⟩
abbrev pin26 : VPL := (.cons (.ptr 0 0) .nil)
abbrev os26 : List OP := oo4
abbrev alts26 : List Alt := [(.bool, oo4)]
noncomputable def body26 : Code := match Try.f26.body with
  | some c => c
  | none => .skip
def F26 : pin26.T → OPL.T os26 → Option (AT alts26)
  | ((), ()), ((a1, ((), ((), ((), ((), (a2, (a3, (a4, ())))))))), (a5, (a6, ((((), ()), ((), ((), ()))), (((), ()), (a7, (a8, ((((), ()), ((), ((), ()))), (a9, (a10, ())))))))))) =>
    some (true, (a1, (), (), (), (), a2, a3, a4, ()), a5, a6, (((), ()), (), (), ()), ((), ()), a7, a8, (((), ()), (), (), ()), a9, a10, ())
noncomputable def T26 : List (Entry Try.prog) := []
noncomputable def cuts26 : List (Cut (AT alts26)) := []
theorem e26 : ∀ x y, F26 x y = codeJ Try.prog (tableJ (T26)) (Lof 10 0 (cuts26)) body26 (st0 pin26 os26 x y) (endJ Try.prog 10 [.tmp 2] alts26) := by
  intro x y; kernel_rfl
theorem k26 : FnOK Try.prog 26 pin26 os26 alts26 (F26) :=
  fn_ok (fn := Try.f26) (body := body26) (cuts := cuts26) (k := 0) (C := tableJ (T26)) (C' := tableJ (T26)) (table_ok _) (table_nat _) (table_ok _) mixed (by kernel_rfl) (by kernel_rfl) (by decide) (by kernel_rfl) (fun x => Nat.le_of_ble_eq_true (by kernel_rfl))
    (fun c h => by cases h) (fun c h => by cases h) (e26)
noncomputable def E26 : Entry Try.prog := ⟨26, pin26, os26, alts26, F26, k26, rfl⟩
abbrev pin14 : VPL := (.cons (.ptr 0 0) .nil)
abbrev os14 : List OP := oo4
abbrev alts14 : List Alt := [(.int .i64, oo4)]
noncomputable def body14 : Code := match Try.f14.body with
  | some c => c
  | none => .skip
def F14 : pin14.T → OPL.T os14 → Option (AT alts14)
  | ((), ()), ((a1, ((), ((), ((), ((), (a2, (a3, (a4, ())))))))), (a5, (a6, ((((), ()), ((), ((), ()))), (((), ()), (a7, (a8, ((((), ()), ((), ((), ()))), (a9, (a10, ())))))))))) =>
    Option.bind (F26 ((), ()) ((a1, (), (), (), (), a2, a3, a4, ()), a5, a6, (((), ()), (), (), ()), ((), ()), a7, a8, (((), ()), (), (), ()), a9, a10, ())) fun val => if (!val.1) = true then some ((0 : Int), (a1, (), (), (), (), a2, a3, a4, ()), a5, a6, (((), ()), (), (), ()), ((), ()), a7, a8, (((), ()), (), (), ()), a9, a10, ()) else some ((↑(List.length a7) : Int), (a1, (), (), (), (), a2, a3, a4, ()), a5, a6, (((), ()), (), (), ()), ((), ()), a7, a8, (((), ()), (), (), ()), a9, a10, ())
noncomputable def T14 : List (Entry Try.prog) := [E26]
noncomputable def cuts14 : List (Cut (AT alts14)) := []
theorem e14 : ∀ x y, F14 x y = codeJ Try.prog (tableJ (T14)) (Lof 10 0 (cuts14)) body14 (st0 pin14 os14 x y) (endJ Try.prog 10 [.tmp 2] alts14) := by
  intro x y; kernel_rfl
theorem k14 : FnOK Try.prog 14 pin14 os14 alts14 (F14) :=
  fn_ok (fn := Try.f14) (body := body14) (cuts := cuts14) (k := 0) (C := tableJ (T14)) (C' := tableJ (T14)) (table_ok _) (table_nat _) (table_ok _) mixed (by kernel_rfl) (by kernel_rfl) (by decide) (by kernel_rfl) (fun x => Nat.le_of_ble_eq_true (by kernel_rfl))
    (fun c h => by cases h) (fun c h => by cases h) (e14)
noncomputable def E14 : Entry Try.prog := ⟨14, pin14, os14, alts14, F14, k14, rfl⟩
abbrev pin28 : VPL := (.cons (.ptr 0 0) (.cons (.int .i64) .nil))
abbrev os28 : List OP := oo7
abbrev alts28 : List Alt := [(.agg (.cons (.int .i64) (.cons (.int .i64) (.cons (.int .i64) .nil))), oo3)]
noncomputable def body28 : Code := match Try.f28.body with
  | some c => c
  | none => .skip
def F28 (k : Nat) : pin28.T → OPL.T os28 → Option (AT alts28)
  | ((), (a1, ())), ((a2, ((), ((), ((), ((), (a3, (a4, (a5, ())))))))), (a6, (a7, ((((), ()), ((), ((), ()))), (((), ()), (a8, (a9, ((((), ()), ((), ((), ()))), (a10, (a11, ())))))))))) =>
    Option.bind ((F42b k) ((), a1, ()) ((((), ()), (), (), ()), ((), ()), (a2, (), (), (), (), a3, a4, a5, ()), a6, a7, (((), ()), (), (), ()), a10, a11, a8, a9, ())) fun val => Option.bind ((F42w k) ((), a1, ()) ((((), ()), (), (), ()), ((), ()), (val.2.2.2.1.1, (), (), (), (), val.2.2.2.1.2.2.2.2.2.1, val.2.2.2.1.2.2.2.2.2.2.1, val.2.2.2.1.2.2.2.2.2.2.2.1, ()), val.2.2.2.2.2.2.2.2.2.2.2.2.2.1, val.2.2.2.2.2.2.2.2.2.2.2.2.2.2.1, (((), ()), (), (), ()), val.2.2.2.2.2.2.2.2.2.2.2.1, val.2.2.2.2.2.2.2.2.2.2.2.2.1, val.2.2.2.2.2.2.2.2.2.2.2.2.2.2.2.1, val.2.2.2.2.2.2.2.2.2.2.2.2.2.2.2.2.1, ())) fun val => if (List.length val.2.2.2.2.2.2.2.2.2.2.2.2.2.2.1 + (1 : Nat)) * (8 : Nat) ≤ (140737488355328 : Nat) then if (0 : Int) ≤ a1 ∧ a1 < (↑(List.length val.2.2.2.2.2.2.2.2.2.2.2.2.2.1) : Int) then if Int.toNat a1 < List.length val.2.2.2.2.2.2.2.2.2.2.2.2.2.1 then some (((List.getD val.2.2.2.2.2.2.2.2.2.2.2.2.2.1 (Int.toNat a1) ent0).1, (List.getD val.2.2.2.2.2.2.2.2.2.2.2.2.2.1 (Int.toNat a1) ent0).2.1, (List.getD val.2.2.2.2.2.2.2.2.2.2.2.2.2.1 (Int.toNat a1) ent0).2.2.1, ()), (val.2.2.2.1.1, (), (), (), (), val.2.2.2.1.2.2.2.2.2.1, val.2.2.2.1.2.2.2.2.2.2.1, val.2.2.2.1.2.2.2.2.2.2.2.1, ()), (), (), (((), ()), (), (), ()), ((), ()), (), (), (((), ()), (), (), ()), (), (), val.2.2.2.2.2.2.2.2.2.2.2.2.2.1, val.2.2.2.2.2.2.2.2.2.2.2.2.2.2.1 ++ [a1], val.2.2.2.2.2.2.2.2.2.2.2.2.2.2.2.1, val.2.2.2.2.2.2.2.2.2.2.2.2.2.2.2.2.1, val.2.2.2.2.2.2.2.2.2.2.2.1, val.2.2.2.2.2.2.2.2.2.2.2.2.1, ()) else none else none else none
noncomputable def T28 (K : Nat) : List (Entry Try.prog) := [E42b K, E42w K]
noncomputable def cuts28 (K : Nat) : List (Cut (AT alts28)) := []
theorem e28 (k : Nat) : ∀ x y, F28 k x y = codeJ Try.prog (tableJ (T28 k)) (Lof 10 k (cuts28 k)) body28 (st0M pin28 os28 x y) (endJ Try.prog 10 [.cell 4 31] alts28) := by
  intro x y; kernel_rfl
theorem k28 (k : Nat) : FnOK Try.prog 28 pin28 os28 alts28 (F28 k) :=
  fn_okM (fn := Try.f28) (body := body28) (cuts := cuts28 k) (k := k) (C := tableJ (T28 k)) (C' := tableJ (T28 k)) (table_ok _) (table_nat _) (table_ok _) mixed (by kernel_rfl) (by kernel_rfl) (by decide) (by kernel_rfl) (fun x => Nat.le_of_ble_eq_true (by kernel_rfl))
    (fun c h => by cases h) (fun c h => by cases h) (e28 k)
noncomputable def E28 (k : Nat) : Entry Try.prog := ⟨28, pin28, os28, alts28, F28 k, k28 k, rfl⟩
end Go.Eng.He

