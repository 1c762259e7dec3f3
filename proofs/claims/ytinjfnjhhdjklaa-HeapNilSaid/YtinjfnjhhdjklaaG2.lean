/- What the functions of this seat come to, in plain Lean, part 2. No condition. -/
import Derived.Test.YtinjfnjhhdjklaaG1
import Derived.Test.YtinjfnjhhdjklaaE3
import Derived.Test.YtinjfnjhhdjklaaE4
import Derived.Test.YtinjfnjhhdjklaaProg
import Derived.KernelRfl
set_option linter.unusedVariables false
set_option linter.unusedSimpArgs false
set_option linter.unusedVariables false
set_option maxRecDepth 100000
open Go Go.Eng Go.Proofs
namespace Go.Eng.He
/-! 12 Put -/
abbrev pin12 : VPL := (.cons (.ptr 0 0) (.cons (.agg (.cons (.int .i64) (.cons (.int .i64) (.cons (.int .i64) .nil)))) .nil))
abbrev os12 : List OP := [.box (.cons (.int .i64) (.cons (.full 1) (.cons (.full 2) (.cons (.ptr 3 0) (.cons (.ptr 7 0) (.cons (.int .u64) (.cons (.int .i64) (.cons .bool .nil)))))))) true, .row (.many [.int .i64, .int .i64, .int .i64, .int .u64]) true, .row (.one (.int .i64)) true, .box (.cons (.fn 22 (.cons (.ptr 4 0) .nil)) (.cons (.full 5) (.cons (.full 6) .nil))) true, .box (.cons (.ptr 0 0) .nil) true, .row (.one (.int .i64)) true, .row (.one (.int .i64)) true, .box (.cons (.fn 24 (.cons (.ptr 4 0) .nil)) (.cons (.full 8) (.cons (.full 9) .nil))) true, .row (.one (.int .i64)) true, .row (.one (.int .i64)) true]
abbrev alts12 : List Alt := [(.tup (.cons (.agg (.cons (.int .i64) (.cons (.int .i64) (.cons (.int .i64) .nil)))) (.cons .bool (.cons (.int .i64) .nil))), [.box (.cons (.int .i64) (.cons (.full 10) (.cons (.full 11) (.cons (.ptr 3 0) (.cons (.ptr 7 0) (.cons (.int .u64) (.cons (.int .i64) (.cons .bool .nil)))))))) true, .gone, .gone, .box (.cons (.fn 22 (.cons (.ptr 4 0) .nil)) (.cons (.full 12) (.cons (.full 13) .nil))) true, .box (.cons (.ptr 0 0) .nil) true, .gone, .gone, .box (.cons (.fn 24 (.cons (.ptr 4 0) .nil)) (.cons (.full 14) (.cons (.full 15) .nil))) true, .gone, .gone, .row (.many [.int .i64, .int .i64, .int .i64, .int .u64]) true, .row (.one (.int .i64)) true, .row (.one (.int .i64)) true, .row (.one (.int .i64)) true, .row (.one (.int .i64)) true, .row (.one (.int .i64)) true])]
noncomputable def body12 : Code := match Try.f12.body with
  | some c => c
  | none => .skip
def F12 (k : Nat) : pin12.T → OPL.T os12 → Option (AT alts12)
  | ((), ((a1, (a2, (a3, ()))), ())), ((a4, ((), ((), ((), ((), (a5, (a6, (a7, ())))))))), (a8, (a9, ((((), ()), ((), ((), ()))), (((), ()), (a10, (a11, ((((), ()), ((), ((), ()))), (a12, (a13, ())))))))))) =>
    Option.bind
      (F26 ((), ())
        ((a4, (), (), (), (), a5, a6, a7, ()), a8, a9, (((), ()), (), (), ()), ((), ()), a10, a11, (((), ()), (), (), ()),
          a12, a13, ()))
      fun val =>
      if (!val.1) = true then
        some
          ((((0 : Int), (0 : Int), (0 : Int), ()), false, (1 : Int), ()), (a4, (), (), (), (), a5, a6, a7, ()), (), (),
            (((), ()), (), (), ()), ((), ()), (), (), (((), ()), (), (), ()), (), (), a8, a9, a10, a11, a12, a13, ())
      else
        if decide ((0 : Int) < (↑(List.length a9) : Int)) = true then
          if
              (0 : Int) ≤ IntKind.wrap IntKind.i64 ((↑(List.length a9) : Int) - (1 : Int)) ∧
                IntKind.wrap IntKind.i64 ((↑(List.length a9) : Int) - (1 : Int)) < (↑(List.length a9) : Int) then
            if Int.toNat (IntKind.wrap IntKind.i64 ((↑(List.length a9) : Int) - (1 : Int))) < List.length a9 then
              if
                  (0 : Int) ≤ IntKind.wrap IntKind.i64 ((↑(List.length a9) : Int) - (1 : Int)) ∧
                    IntKind.wrap IntKind.i64 ((↑(List.length a9) : Int) - (1 : Int)) ≤ (↑(List.length a9) : Int) then
                if
                    (0 : Int) ≤
                        List.getD a9 (Int.toNat (IntKind.wrap IntKind.i64 ((↑(List.length a9) : Int) - (1 : Int))))
                          (0 : Int) ∧
                      List.getD a9 (Int.toNat (IntKind.wrap IntKind.i64 ((↑(List.length a9) : Int) - (1 : Int))))
                          (0 : Int) <
                        (↑(List.length a8) : Int) then
                  if
                      Int.toNat
                          (List.getD a9 (Int.toNat (IntKind.wrap IntKind.i64 ((↑(List.length a9) : Int) - (1 : Int))))
                            (0 : Int)) <
                        List.length a8 then
                    Option.bind
                      ((F27b k)
                        ((),
                          List.getD a9 (Int.toNat (IntKind.wrap IntKind.i64 ((↑(List.length a9) : Int) - (1 : Int))))
                            (0 : Int),
                          ())
                        ((((), ()), (), (), ()), ((), ()),
                          (a4, (), (), (), (), IntKind.wrap IntKind.u64 (a5 + (1 : Int)), a6, a7, ()),
                          List.set a8
                            (Int.toNat
                              (List.getD a9 (Int.toNat (IntKind.wrap IntKind.i64 ((↑(List.length a9) : Int) - (1 : Int))))
                                (0 : Int)))
                            (a1, a2, a3, IntKind.wrap IntKind.u64 (a5 + (1 : Int))),
                          List.take
                            (Int.toNat (IntKind.wrap IntKind.i64 ((↑(List.length a9) : Int) - (1 : Int))) - (0 : Nat))
                            (List.drop (0 : Nat) a9),
                          (((), ()), (), (), ()), a12, a13, a10, a11, ()))
                      fun val =>
                      Option.bind
                        ((F27w k)
                          ((),
                            List.getD a9 (Int.toNat (IntKind.wrap IntKind.i64 ((↑(List.length a9) : Int) - (1 : Int))))
                              (0 : Int),
                            ())
                          ((((), ()), (), (), ()), ((), ()),
                            ((Prod.fst (Prod.snd (Prod.snd (Prod.snd val)))).1, (), (), (), (),
                              (Prod.snd
                                  (Prod.snd
                                    (Prod.snd (Prod.snd (Prod.snd (Prod.fst (Prod.snd (Prod.snd (Prod.snd val))))))))).1,
                              (Prod.snd
                                  (Prod.snd
                                    (Prod.snd
                                      (Prod.snd (Prod.snd (Prod.snd (Prod.fst (Prod.snd (Prod.snd (Prod.snd val)))))))))).1,
                              (Prod.snd
                                  (Prod.snd
                                    (Prod.snd
                                      (Prod.snd
                                        (Prod.snd
                                          (Prod.snd (Prod.snd (Prod.fst (Prod.snd (Prod.snd (Prod.snd val))))))))))).1,
                              ()),
                            (Prod.snd
                                (Prod.snd
                                  (Prod.snd
                                    (Prod.snd
                                      (Prod.snd
                                        (Prod.snd
                                          (Prod.snd
                                            (Prod.snd (Prod.snd (Prod.snd (Prod.snd (Prod.snd (Prod.snd val))))))))))))).1,
                            (Prod.snd
                                (Prod.snd
                                  (Prod.snd
                                    (Prod.snd
                                      (Prod.snd
                                        (Prod.snd
                                          (Prod.snd
                                            (Prod.snd
                                              (Prod.snd
                                                (Prod.snd (Prod.snd (Prod.snd (Prod.snd (Prod.snd val)))))))))))))).1,
                            (((), ()), (), (), ()),
                            (Prod.snd
                                (Prod.snd
                                  (Prod.snd
                                    (Prod.snd
                                      (Prod.snd
                                        (Prod.snd (Prod.snd (Prod.snd (Prod.snd (Prod.snd (Prod.snd val))))))))))).1,
                            (Prod.snd
                                (Prod.snd
                                  (Prod.snd
                                    (Prod.snd
                                      (Prod.snd
                                        (Prod.snd
                                          (Prod.snd (Prod.snd (Prod.snd (Prod.snd (Prod.snd (Prod.snd val)))))))))))).1,
                            (Prod.snd
                                (Prod.snd
                                  (Prod.snd
                                    (Prod.snd
                                      (Prod.snd
                                        (Prod.snd
                                          (Prod.snd
                                            (Prod.snd
                                              (Prod.snd
                                                (Prod.snd
                                                  (Prod.snd (Prod.snd (Prod.snd (Prod.snd (Prod.snd val))))))))))))))).1,
                            (Prod.snd
                                (Prod.snd
                                  (Prod.snd
                                    (Prod.snd
                                      (Prod.snd
                                        (Prod.snd
                                          (Prod.snd
                                            (Prod.snd
                                              (Prod.snd
                                                (Prod.snd
                                                  (Prod.snd
                                                    (Prod.snd (Prod.snd (Prod.snd (Prod.snd (Prod.snd val)))))))))))))))).1,
                            ()))
                        fun val =>
                        Option.bind
                          (F14 ((), ())
                            (((Prod.fst (Prod.snd (Prod.snd (Prod.snd val)))).1, (), (), (), (),
                                (Prod.snd
                                    (Prod.snd
                                      (Prod.snd (Prod.snd (Prod.snd (Prod.fst (Prod.snd (Prod.snd (Prod.snd val))))))))).1,
                                (Prod.snd
                                    (Prod.snd
                                      (Prod.snd
                                        (Prod.snd
                                          (Prod.snd (Prod.snd (Prod.fst (Prod.snd (Prod.snd (Prod.snd val)))))))))).1,
                                (Prod.snd
                                    (Prod.snd
                                      (Prod.snd
                                        (Prod.snd
                                          (Prod.snd
                                            (Prod.snd (Prod.snd (Prod.fst (Prod.snd (Prod.snd (Prod.snd val))))))))))).1,
                                ()),
                              (Prod.snd
                                  (Prod.snd
                                    (Prod.snd
                                      (Prod.snd
                                        (Prod.snd
                                          (Prod.snd
                                            (Prod.snd
                                              (Prod.snd
                                                (Prod.snd (Prod.snd (Prod.snd (Prod.snd (Prod.snd val))))))))))))).1,
                              (Prod.snd
                                  (Prod.snd
                                    (Prod.snd
                                      (Prod.snd
                                        (Prod.snd
                                          (Prod.snd
                                            (Prod.snd
                                              (Prod.snd
                                                (Prod.snd
                                                  (Prod.snd (Prod.snd (Prod.snd (Prod.snd (Prod.snd val)))))))))))))).1,
                              (((), ()), (), (), ()), ((), ()),
                              (Prod.snd
                                  (Prod.snd
                                    (Prod.snd
                                      (Prod.snd
                                        (Prod.snd
                                          (Prod.snd
                                            (Prod.snd
                                              (Prod.snd
                                                (Prod.snd
                                                  (Prod.snd
                                                    (Prod.snd (Prod.snd (Prod.snd (Prod.snd (Prod.snd val))))))))))))))).1,
                              (Prod.snd
                                  (Prod.snd
                                    (Prod.snd
                                      (Prod.snd
                                        (Prod.snd
                                          (Prod.snd
                                            (Prod.snd
                                              (Prod.snd
                                                (Prod.snd
                                                  (Prod.snd
                                                    (Prod.snd
                                                      (Prod.snd
                                                        (Prod.snd (Prod.snd (Prod.snd (Prod.snd val)))))))))))))))).1,
                              (((), ()), (), (), ()),
                              (Prod.snd
                                  (Prod.snd
                                    (Prod.snd
                                      (Prod.snd
                                        (Prod.snd
                                          (Prod.snd (Prod.snd (Prod.snd (Prod.snd (Prod.snd (Prod.snd val))))))))))).1,
                              (Prod.snd
                                  (Prod.snd
                                    (Prod.snd
                                      (Prod.snd
                                        (Prod.snd
                                          (Prod.snd
                                            (Prod.snd (Prod.snd (Prod.snd (Prod.snd (Prod.snd (Prod.snd val)))))))))))).1,
                              ()))
                          fun val_1 =>
                          if decide (val_1.1 ≤ (Prod.fst (Prod.snd (Prod.snd (Prod.snd val)))).1) = true then
                            some
                              ((((0 : Int), (0 : Int), (0 : Int), ()), false, (0 : Int), ()),
                                ((Prod.fst (Prod.snd (Prod.snd (Prod.snd val)))).1, (), (), (), (),
                                  (Prod.snd
                                      (Prod.snd
                                        (Prod.snd
                                          (Prod.snd (Prod.snd (Prod.fst (Prod.snd (Prod.snd (Prod.snd val))))))))).1,
                                  (Prod.snd
                                      (Prod.snd
                                        (Prod.snd
                                          (Prod.snd
                                            (Prod.snd (Prod.snd (Prod.fst (Prod.snd (Prod.snd (Prod.snd val)))))))))).1,
                                  (Prod.snd
                                      (Prod.snd
                                        (Prod.snd
                                          (Prod.snd
                                            (Prod.snd
                                              (Prod.snd (Prod.snd (Prod.fst (Prod.snd (Prod.snd (Prod.snd val))))))))))).1,
                                  ()),
                                (), (), (((), ()), (), (), ()), ((), ()), (), (), (((), ()), (), (), ()), (), (),
                                (Prod.snd
                                    (Prod.snd
                                      (Prod.snd
                                        (Prod.snd
                                          (Prod.snd
                                            (Prod.snd
                                              (Prod.snd
                                                (Prod.snd
                                                  (Prod.snd (Prod.snd (Prod.snd (Prod.snd (Prod.snd val))))))))))))).1,
                                (Prod.snd
                                    (Prod.snd
                                      (Prod.snd
                                        (Prod.snd
                                          (Prod.snd
                                            (Prod.snd
                                              (Prod.snd
                                                (Prod.snd
                                                  (Prod.snd
                                                    (Prod.snd (Prod.snd (Prod.snd (Prod.snd (Prod.snd val)))))))))))))).1,
                                (Prod.snd
                                    (Prod.snd
                                      (Prod.snd
                                        (Prod.snd
                                          (Prod.snd
                                            (Prod.snd
                                              (Prod.snd
                                                (Prod.snd
                                                  (Prod.snd
                                                    (Prod.snd
                                                      (Prod.snd
                                                        (Prod.snd (Prod.snd (Prod.snd (Prod.snd val))))))))))))))).1,
                                (Prod.snd
                                    (Prod.snd
                                      (Prod.snd
                                        (Prod.snd
                                          (Prod.snd
                                            (Prod.snd
                                              (Prod.snd
                                                (Prod.snd
                                                  (Prod.snd
                                                    (Prod.snd
                                                      (Prod.snd
                                                        (Prod.snd
                                                          (Prod.snd (Prod.snd (Prod.snd (Prod.snd val)))))))))))))))).1,
                                (Prod.snd
                                    (Prod.snd
                                      (Prod.snd
                                        (Prod.snd
                                          (Prod.snd
                                            (Prod.snd (Prod.snd (Prod.snd (Prod.snd (Prod.snd (Prod.snd val))))))))))).1,
                                (Prod.snd
                                    (Prod.snd
                                      (Prod.snd
                                        (Prod.snd
                                          (Prod.snd
                                            (Prod.snd
                                              (Prod.snd (Prod.snd (Prod.snd (Prod.snd (Prod.snd (Prod.snd val)))))))))))).1,
                                ())
                          else
                            if
                                (0 : Int) ≤ (0 : Int) ∧
                                  (0 : Int) <
                                    (↑(List.length
                                          (Prod.snd
                                              (Prod.snd
                                                (Prod.snd
                                                  (Prod.snd
                                                    (Prod.snd
                                                      (Prod.snd
                                                        (Prod.snd
                                                          (Prod.snd (Prod.snd (Prod.snd (Prod.snd val))))))))))).1) :
                                      Int) then
                              if
                                  (0 : Nat) <
                                    List.length
                                      (Prod.snd
                                          (Prod.snd
                                            (Prod.snd
                                              (Prod.snd
                                                (Prod.snd
                                                  (Prod.snd
                                                    (Prod.snd (Prod.snd (Prod.snd (Prod.snd (Prod.snd val))))))))))).1 then
                                Option.bind
                                  ((F28 k)
                                    ((),
                                      List.getD
                                        (Prod.snd
                                            (Prod.snd
                                              (Prod.snd
                                                (Prod.snd
                                                  (Prod.snd
                                                    (Prod.snd
                                                      (Prod.snd (Prod.snd (Prod.snd (Prod.snd (Prod.snd val))))))))))).1
                                        (0 : Nat) (0 : Int),
                                      ())
                                    (((Prod.fst (Prod.snd (Prod.snd (Prod.snd val)))).1, (), (), (), (),
                                        (Prod.snd
                                            (Prod.snd
                                              (Prod.snd
                                                (Prod.snd (Prod.snd (Prod.fst (Prod.snd (Prod.snd (Prod.snd val))))))))).1,
                                        (Prod.snd
                                            (Prod.snd
                                              (Prod.snd
                                                (Prod.snd
                                                  (Prod.snd
                                                    (Prod.snd (Prod.fst (Prod.snd (Prod.snd (Prod.snd val)))))))))).1,
                                        (Prod.snd
                                            (Prod.snd
                                              (Prod.snd
                                                (Prod.snd
                                                  (Prod.snd
                                                    (Prod.snd
                                                      (Prod.snd (Prod.fst (Prod.snd (Prod.snd (Prod.snd val))))))))))).1,
                                        ()),
                                      (Prod.snd
                                          (Prod.snd
                                            (Prod.snd
                                              (Prod.snd
                                                (Prod.snd
                                                  (Prod.snd
                                                    (Prod.snd
                                                      (Prod.snd
                                                        (Prod.snd
                                                          (Prod.snd (Prod.snd (Prod.snd (Prod.snd val))))))))))))).1,
                                      (Prod.snd
                                          (Prod.snd
                                            (Prod.snd
                                              (Prod.snd
                                                (Prod.snd
                                                  (Prod.snd
                                                    (Prod.snd
                                                      (Prod.snd
                                                        (Prod.snd
                                                          (Prod.snd
                                                            (Prod.snd (Prod.snd (Prod.snd (Prod.snd val)))))))))))))).1,
                                      (((), ()), (), (), ()), ((), ()),
                                      (Prod.snd
                                          (Prod.snd
                                            (Prod.snd
                                              (Prod.snd
                                                (Prod.snd
                                                  (Prod.snd
                                                    (Prod.snd
                                                      (Prod.snd
                                                        (Prod.snd
                                                          (Prod.snd
                                                            (Prod.snd
                                                              (Prod.snd (Prod.snd (Prod.snd (Prod.snd val))))))))))))))).1,
                                      (Prod.snd
                                          (Prod.snd
                                            (Prod.snd
                                              (Prod.snd
                                                (Prod.snd
                                                  (Prod.snd
                                                    (Prod.snd
                                                      (Prod.snd
                                                        (Prod.snd
                                                          (Prod.snd
                                                            (Prod.snd
                                                              (Prod.snd
                                                                (Prod.snd
                                                                  (Prod.snd (Prod.snd (Prod.snd val)))))))))))))))).1,
                                      (((), ()), (), (), ()),
                                      (Prod.snd
                                          (Prod.snd
                                            (Prod.snd
                                              (Prod.snd
                                                (Prod.snd
                                                  (Prod.snd
                                                    (Prod.snd (Prod.snd (Prod.snd (Prod.snd (Prod.snd val))))))))))).1,
                                      (Prod.snd
                                          (Prod.snd
                                            (Prod.snd
                                              (Prod.snd
                                                (Prod.snd
                                                  (Prod.snd
                                                    (Prod.snd
                                                      (Prod.snd (Prod.snd (Prod.snd (Prod.snd (Prod.snd val)))))))))))).1,
                                      ()))
                                  fun val =>
                                  if
                                      (!(Prod.snd
                                              (Prod.snd
                                                (Prod.snd
                                                  (Prod.snd
                                                    (Prod.snd (Prod.snd (Prod.snd (Prod.fst (Prod.snd val))))))))).1) =
                                        true then
                                    some
                                      ((((Prod.fst val).1, (Prod.snd (Prod.fst val)).1,
                                            (Prod.snd (Prod.snd (Prod.fst val))).1, ()),
                                          true, (0 : Int), ()),
                                        ((Prod.fst (Prod.snd val)).1, (), (), (), (),
                                          (Prod.snd
                                              (Prod.snd (Prod.snd (Prod.snd (Prod.snd (Prod.fst (Prod.snd val))))))).1,
                                          (Prod.fst val).1, true, ()),
                                        (), (), (((), ()), (), (), ()), ((), ()), (), (), (((), ()), (), (), ()), (), (),
                                        (Prod.snd
                                            (Prod.snd
                                              (Prod.snd
                                                (Prod.snd
                                                  (Prod.snd
                                                    (Prod.snd
                                                      (Prod.snd (Prod.snd (Prod.snd (Prod.snd (Prod.snd val))))))))))).1,
                                        (Prod.snd
                                            (Prod.snd
                                              (Prod.snd
                                                (Prod.snd
                                                  (Prod.snd
                                                    (Prod.snd
                                                      (Prod.snd
                                                        (Prod.snd (Prod.snd (Prod.snd (Prod.snd (Prod.snd val)))))))))))).1,
                                        (Prod.snd
                                            (Prod.snd
                                              (Prod.snd
                                                (Prod.snd
                                                  (Prod.snd
                                                    (Prod.snd
                                                      (Prod.snd
                                                        (Prod.snd
                                                          (Prod.snd
                                                            (Prod.snd (Prod.snd (Prod.snd (Prod.snd val))))))))))))).1,
                                        (Prod.snd
                                            (Prod.snd
                                              (Prod.snd
                                                (Prod.snd
                                                  (Prod.snd
                                                    (Prod.snd
                                                      (Prod.snd
                                                        (Prod.snd
                                                          (Prod.snd
                                                            (Prod.snd
                                                              (Prod.snd (Prod.snd (Prod.snd (Prod.snd val)))))))))))))).1,
                                        (Prod.snd
                                            (Prod.snd
                                              (Prod.snd
                                                (Prod.snd
                                                  (Prod.snd
                                                    (Prod.snd
                                                      (Prod.snd
                                                        (Prod.snd
                                                          (Prod.snd
                                                            (Prod.snd
                                                              (Prod.snd
                                                                (Prod.snd
                                                                  (Prod.snd (Prod.snd (Prod.snd val))))))))))))))).1,
                                        (Prod.snd
                                            (Prod.snd
                                              (Prod.snd
                                                (Prod.snd
                                                  (Prod.snd
                                                    (Prod.snd
                                                      (Prod.snd
                                                        (Prod.snd
                                                          (Prod.snd
                                                            (Prod.snd
                                                              (Prod.snd
                                                                (Prod.snd
                                                                  (Prod.snd
                                                                    (Prod.snd (Prod.snd (Prod.snd val)))))))))))))))).1,
                                        ())
                                  else
                                    if
                                        decide
                                            ((Prod.snd
                                                  (Prod.snd
                                                    (Prod.snd
                                                      (Prod.snd (Prod.snd (Prod.snd (Prod.fst (Prod.snd val)))))))).1 <
                                              (Prod.fst val).1) =
                                          true then
                                      some
                                        ((((Prod.fst val).1, (Prod.snd (Prod.fst val)).1,
                                              (Prod.snd (Prod.snd (Prod.fst val))).1, ()),
                                            true, (0 : Int), ()),
                                          ((Prod.fst (Prod.snd val)).1, (), (), (), (),
                                            (Prod.snd
                                                (Prod.snd (Prod.snd (Prod.snd (Prod.snd (Prod.fst (Prod.snd val))))))).1,
                                            (Prod.fst val).1, true, ()),
                                          (), (), (((), ()), (), (), ()), ((), ()), (), (), (((), ()), (), (), ()), (), (),
                                          (Prod.snd
                                              (Prod.snd
                                                (Prod.snd
                                                  (Prod.snd
                                                    (Prod.snd
                                                      (Prod.snd
                                                        (Prod.snd (Prod.snd (Prod.snd (Prod.snd (Prod.snd val))))))))))).1,
                                          (Prod.snd
                                              (Prod.snd
                                                (Prod.snd
                                                  (Prod.snd
                                                    (Prod.snd
                                                      (Prod.snd
                                                        (Prod.snd
                                                          (Prod.snd
                                                            (Prod.snd (Prod.snd (Prod.snd (Prod.snd val)))))))))))).1,
                                          (Prod.snd
                                              (Prod.snd
                                                (Prod.snd
                                                  (Prod.snd
                                                    (Prod.snd
                                                      (Prod.snd
                                                        (Prod.snd
                                                          (Prod.snd
                                                            (Prod.snd
                                                              (Prod.snd (Prod.snd (Prod.snd (Prod.snd val))))))))))))).1,
                                          (Prod.snd
                                              (Prod.snd
                                                (Prod.snd
                                                  (Prod.snd
                                                    (Prod.snd
                                                      (Prod.snd
                                                        (Prod.snd
                                                          (Prod.snd
                                                            (Prod.snd
                                                              (Prod.snd
                                                                (Prod.snd (Prod.snd (Prod.snd (Prod.snd val)))))))))))))).1,
                                          (Prod.snd
                                              (Prod.snd
                                                (Prod.snd
                                                  (Prod.snd
                                                    (Prod.snd
                                                      (Prod.snd
                                                        (Prod.snd
                                                          (Prod.snd
                                                            (Prod.snd
                                                              (Prod.snd
                                                                (Prod.snd
                                                                  (Prod.snd
                                                                    (Prod.snd (Prod.snd (Prod.snd val))))))))))))))).1,
                                          (Prod.snd
                                              (Prod.snd
                                                (Prod.snd
                                                  (Prod.snd
                                                    (Prod.snd
                                                      (Prod.snd
                                                        (Prod.snd
                                                          (Prod.snd
                                                            (Prod.snd
                                                              (Prod.snd
                                                                (Prod.snd
                                                                  (Prod.snd
                                                                    (Prod.snd
                                                                      (Prod.snd (Prod.snd (Prod.snd val)))))))))))))))).1,
                                          ())
                                    else
                                      some
                                        ((((Prod.fst val).1, (Prod.snd (Prod.fst val)).1,
                                              (Prod.snd (Prod.snd (Prod.fst val))).1, ()),
                                            true, (0 : Int), ()),
                                          ((Prod.fst (Prod.snd val)).1, (), (), (), (),
                                            (Prod.snd
                                                (Prod.snd (Prod.snd (Prod.snd (Prod.snd (Prod.fst (Prod.snd val))))))).1,
                                            (Prod.snd
                                                (Prod.snd
                                                  (Prod.snd (Prod.snd (Prod.snd (Prod.snd (Prod.fst (Prod.snd val)))))))).1,
                                            (Prod.snd
                                                (Prod.snd
                                                  (Prod.snd
                                                    (Prod.snd
                                                      (Prod.snd (Prod.snd (Prod.snd (Prod.fst (Prod.snd val))))))))).1,
                                            ()),
                                          (), (), (((), ()), (), (), ()), ((), ()), (), (), (((), ()), (), (), ()), (), (),
                                          (Prod.snd
                                              (Prod.snd
                                                (Prod.snd
                                                  (Prod.snd
                                                    (Prod.snd
                                                      (Prod.snd
                                                        (Prod.snd (Prod.snd (Prod.snd (Prod.snd (Prod.snd val))))))))))).1,
                                          (Prod.snd
                                              (Prod.snd
                                                (Prod.snd
                                                  (Prod.snd
                                                    (Prod.snd
                                                      (Prod.snd
                                                        (Prod.snd
                                                          (Prod.snd
                                                            (Prod.snd (Prod.snd (Prod.snd (Prod.snd val)))))))))))).1,
                                          (Prod.snd
                                              (Prod.snd
                                                (Prod.snd
                                                  (Prod.snd
                                                    (Prod.snd
                                                      (Prod.snd
                                                        (Prod.snd
                                                          (Prod.snd
                                                            (Prod.snd
                                                              (Prod.snd (Prod.snd (Prod.snd (Prod.snd val))))))))))))).1,
                                          (Prod.snd
                                              (Prod.snd
                                                (Prod.snd
                                                  (Prod.snd
                                                    (Prod.snd
                                                      (Prod.snd
                                                        (Prod.snd
                                                          (Prod.snd
                                                            (Prod.snd
                                                              (Prod.snd
                                                                (Prod.snd (Prod.snd (Prod.snd (Prod.snd val)))))))))))))).1,
                                          (Prod.snd
                                              (Prod.snd
                                                (Prod.snd
                                                  (Prod.snd
                                                    (Prod.snd
                                                      (Prod.snd
                                                        (Prod.snd
                                                          (Prod.snd
                                                            (Prod.snd
                                                              (Prod.snd
                                                                (Prod.snd
                                                                  (Prod.snd
                                                                    (Prod.snd (Prod.snd (Prod.snd val))))))))))))))).1,
                                          (Prod.snd
                                              (Prod.snd
                                                (Prod.snd
                                                  (Prod.snd
                                                    (Prod.snd
                                                      (Prod.snd
                                                        (Prod.snd
                                                          (Prod.snd
                                                            (Prod.snd
                                                              (Prod.snd
                                                                (Prod.snd
                                                                  (Prod.snd
                                                                    (Prod.snd
                                                                      (Prod.snd (Prod.snd (Prod.snd val)))))))))))))))).1,
                                          ())
                              else none
                            else none
                  else none
                else none
              else none
            else none
          else none
        else
          if (List.length a8 + (1 : Nat)) * (32 : Nat) ≤ (140737488355328 : Nat) then
            Option.bind
              ((F27b k) ((), (↑(List.length a8) : Int), ())
                ((((), ()), (), (), ()), ((), ()),
                  (a4, (), (), (), (), IntKind.wrap IntKind.u64 (a5 + (1 : Int)), a6, a7, ()),
                  a8 ++ [(a1, a2, a3, IntKind.wrap IntKind.u64 (a5 + (1 : Int)))], a9, (((), ()), (), (), ()), a12, a13,
                  a10, a11, ()))
              fun val =>
              Option.bind
                ((F27w k) ((), (↑(List.length a8) : Int), ())
                  ((((), ()), (), (), ()), ((), ()),
                    ((Prod.fst (Prod.snd (Prod.snd (Prod.snd val)))).1, (), (), (), (),
                      (Prod.snd
                          (Prod.snd (Prod.snd (Prod.snd (Prod.snd (Prod.fst (Prod.snd (Prod.snd (Prod.snd val))))))))).1,
                      (Prod.snd
                          (Prod.snd
                            (Prod.snd (Prod.snd (Prod.snd (Prod.snd (Prod.fst (Prod.snd (Prod.snd (Prod.snd val)))))))))).1,
                      (Prod.snd
                          (Prod.snd
                            (Prod.snd
                              (Prod.snd
                                (Prod.snd (Prod.snd (Prod.snd (Prod.fst (Prod.snd (Prod.snd (Prod.snd val))))))))))).1,
                      ()),
                    (Prod.snd
                        (Prod.snd
                          (Prod.snd
                            (Prod.snd
                              (Prod.snd
                                (Prod.snd
                                  (Prod.snd (Prod.snd (Prod.snd (Prod.snd (Prod.snd (Prod.snd (Prod.snd val))))))))))))).1,
                    (Prod.snd
                        (Prod.snd
                          (Prod.snd
                            (Prod.snd
                              (Prod.snd
                                (Prod.snd
                                  (Prod.snd
                                    (Prod.snd
                                      (Prod.snd (Prod.snd (Prod.snd (Prod.snd (Prod.snd (Prod.snd val)))))))))))))).1,
                    (((), ()), (), (), ()),
                    (Prod.snd
                        (Prod.snd
                          (Prod.snd
                            (Prod.snd
                              (Prod.snd (Prod.snd (Prod.snd (Prod.snd (Prod.snd (Prod.snd (Prod.snd val))))))))))).1,
                    (Prod.snd
                        (Prod.snd
                          (Prod.snd
                            (Prod.snd
                              (Prod.snd
                                (Prod.snd (Prod.snd (Prod.snd (Prod.snd (Prod.snd (Prod.snd (Prod.snd val)))))))))))).1,
                    (Prod.snd
                        (Prod.snd
                          (Prod.snd
                            (Prod.snd
                              (Prod.snd
                                (Prod.snd
                                  (Prod.snd
                                    (Prod.snd
                                      (Prod.snd
                                        (Prod.snd (Prod.snd (Prod.snd (Prod.snd (Prod.snd (Prod.snd val))))))))))))))).1,
                    (Prod.snd
                        (Prod.snd
                          (Prod.snd
                            (Prod.snd
                              (Prod.snd
                                (Prod.snd
                                  (Prod.snd
                                    (Prod.snd
                                      (Prod.snd
                                        (Prod.snd
                                          (Prod.snd (Prod.snd (Prod.snd (Prod.snd (Prod.snd (Prod.snd val)))))))))))))))).1,
                    ()))
                fun val =>
                Option.bind
                  (F14 ((), ())
                    (((Prod.fst (Prod.snd (Prod.snd (Prod.snd val)))).1, (), (), (), (),
                        (Prod.snd
                            (Prod.snd (Prod.snd (Prod.snd (Prod.snd (Prod.fst (Prod.snd (Prod.snd (Prod.snd val))))))))).1,
                        (Prod.snd
                            (Prod.snd
                              (Prod.snd
                                (Prod.snd (Prod.snd (Prod.snd (Prod.fst (Prod.snd (Prod.snd (Prod.snd val)))))))))).1,
                        (Prod.snd
                            (Prod.snd
                              (Prod.snd
                                (Prod.snd
                                  (Prod.snd (Prod.snd (Prod.snd (Prod.fst (Prod.snd (Prod.snd (Prod.snd val))))))))))).1,
                        ()),
                      (Prod.snd
                          (Prod.snd
                            (Prod.snd
                              (Prod.snd
                                (Prod.snd
                                  (Prod.snd
                                    (Prod.snd
                                      (Prod.snd (Prod.snd (Prod.snd (Prod.snd (Prod.snd (Prod.snd val))))))))))))).1,
                      (Prod.snd
                          (Prod.snd
                            (Prod.snd
                              (Prod.snd
                                (Prod.snd
                                  (Prod.snd
                                    (Prod.snd
                                      (Prod.snd
                                        (Prod.snd (Prod.snd (Prod.snd (Prod.snd (Prod.snd (Prod.snd val)))))))))))))).1,
                      (((), ()), (), (), ()), ((), ()),
                      (Prod.snd
                          (Prod.snd
                            (Prod.snd
                              (Prod.snd
                                (Prod.snd
                                  (Prod.snd
                                    (Prod.snd
                                      (Prod.snd
                                        (Prod.snd
                                          (Prod.snd (Prod.snd (Prod.snd (Prod.snd (Prod.snd (Prod.snd val))))))))))))))).1,
                      (Prod.snd
                          (Prod.snd
                            (Prod.snd
                              (Prod.snd
                                (Prod.snd
                                  (Prod.snd
                                    (Prod.snd
                                      (Prod.snd
                                        (Prod.snd
                                          (Prod.snd
                                            (Prod.snd
                                              (Prod.snd (Prod.snd (Prod.snd (Prod.snd (Prod.snd val)))))))))))))))).1,
                      (((), ()), (), (), ()),
                      (Prod.snd
                          (Prod.snd
                            (Prod.snd
                              (Prod.snd
                                (Prod.snd (Prod.snd (Prod.snd (Prod.snd (Prod.snd (Prod.snd (Prod.snd val))))))))))).1,
                      (Prod.snd
                          (Prod.snd
                            (Prod.snd
                              (Prod.snd
                                (Prod.snd
                                  (Prod.snd (Prod.snd (Prod.snd (Prod.snd (Prod.snd (Prod.snd (Prod.snd val)))))))))))).1,
                      ()))
                  fun val_1 =>
                  if decide (val_1.1 ≤ (Prod.fst (Prod.snd (Prod.snd (Prod.snd val)))).1) = true then
                    some
                      ((((0 : Int), (0 : Int), (0 : Int), ()), false, (0 : Int), ()),
                        ((Prod.fst (Prod.snd (Prod.snd (Prod.snd val)))).1, (), (), (), (),
                          (Prod.snd
                              (Prod.snd
                                (Prod.snd (Prod.snd (Prod.snd (Prod.fst (Prod.snd (Prod.snd (Prod.snd val))))))))).1,
                          (Prod.snd
                              (Prod.snd
                                (Prod.snd
                                  (Prod.snd (Prod.snd (Prod.snd (Prod.fst (Prod.snd (Prod.snd (Prod.snd val)))))))))).1,
                          (Prod.snd
                              (Prod.snd
                                (Prod.snd
                                  (Prod.snd
                                    (Prod.snd (Prod.snd (Prod.snd (Prod.fst (Prod.snd (Prod.snd (Prod.snd val))))))))))).1,
                          ()),
                        (), (), (((), ()), (), (), ()), ((), ()), (), (), (((), ()), (), (), ()), (), (),
                        (Prod.snd
                            (Prod.snd
                              (Prod.snd
                                (Prod.snd
                                  (Prod.snd
                                    (Prod.snd
                                      (Prod.snd
                                        (Prod.snd (Prod.snd (Prod.snd (Prod.snd (Prod.snd (Prod.snd val))))))))))))).1,
                        (Prod.snd
                            (Prod.snd
                              (Prod.snd
                                (Prod.snd
                                  (Prod.snd
                                    (Prod.snd
                                      (Prod.snd
                                        (Prod.snd
                                          (Prod.snd (Prod.snd (Prod.snd (Prod.snd (Prod.snd (Prod.snd val)))))))))))))).1,
                        (Prod.snd
                            (Prod.snd
                              (Prod.snd
                                (Prod.snd
                                  (Prod.snd
                                    (Prod.snd
                                      (Prod.snd
                                        (Prod.snd
                                          (Prod.snd
                                            (Prod.snd
                                              (Prod.snd (Prod.snd (Prod.snd (Prod.snd (Prod.snd val))))))))))))))).1,
                        (Prod.snd
                            (Prod.snd
                              (Prod.snd
                                (Prod.snd
                                  (Prod.snd
                                    (Prod.snd
                                      (Prod.snd
                                        (Prod.snd
                                          (Prod.snd
                                            (Prod.snd
                                              (Prod.snd
                                                (Prod.snd (Prod.snd (Prod.snd (Prod.snd (Prod.snd val)))))))))))))))).1,
                        (Prod.snd
                            (Prod.snd
                              (Prod.snd
                                (Prod.snd
                                  (Prod.snd (Prod.snd (Prod.snd (Prod.snd (Prod.snd (Prod.snd (Prod.snd val))))))))))).1,
                        (Prod.snd
                            (Prod.snd
                              (Prod.snd
                                (Prod.snd
                                  (Prod.snd
                                    (Prod.snd (Prod.snd (Prod.snd (Prod.snd (Prod.snd (Prod.snd (Prod.snd val)))))))))))).1,
                        ())
                  else
                    if
                        (0 : Int) ≤ (0 : Int) ∧
                          (0 : Int) <
                            (↑(List.length
                                  (Prod.snd
                                      (Prod.snd
                                        (Prod.snd
                                          (Prod.snd
                                            (Prod.snd
                                              (Prod.snd
                                                (Prod.snd (Prod.snd (Prod.snd (Prod.snd (Prod.snd val))))))))))).1) :
                              Int) then
                      if
                          (0 : Nat) <
                            List.length
                              (Prod.snd
                                  (Prod.snd
                                    (Prod.snd
                                      (Prod.snd
                                        (Prod.snd
                                          (Prod.snd (Prod.snd (Prod.snd (Prod.snd (Prod.snd (Prod.snd val))))))))))).1 then
                        Option.bind
                          ((F28 k)
                            ((),
                              List.getD
                                (Prod.snd
                                    (Prod.snd
                                      (Prod.snd
                                        (Prod.snd
                                          (Prod.snd
                                            (Prod.snd (Prod.snd (Prod.snd (Prod.snd (Prod.snd (Prod.snd val))))))))))).1
                                (0 : Nat) (0 : Int),
                              ())
                            (((Prod.fst (Prod.snd (Prod.snd (Prod.snd val)))).1, (), (), (), (),
                                (Prod.snd
                                    (Prod.snd
                                      (Prod.snd (Prod.snd (Prod.snd (Prod.fst (Prod.snd (Prod.snd (Prod.snd val))))))))).1,
                                (Prod.snd
                                    (Prod.snd
                                      (Prod.snd
                                        (Prod.snd
                                          (Prod.snd (Prod.snd (Prod.fst (Prod.snd (Prod.snd (Prod.snd val)))))))))).1,
                                (Prod.snd
                                    (Prod.snd
                                      (Prod.snd
                                        (Prod.snd
                                          (Prod.snd
                                            (Prod.snd (Prod.snd (Prod.fst (Prod.snd (Prod.snd (Prod.snd val))))))))))).1,
                                ()),
                              (Prod.snd
                                  (Prod.snd
                                    (Prod.snd
                                      (Prod.snd
                                        (Prod.snd
                                          (Prod.snd
                                            (Prod.snd
                                              (Prod.snd
                                                (Prod.snd (Prod.snd (Prod.snd (Prod.snd (Prod.snd val))))))))))))).1,
                              (Prod.snd
                                  (Prod.snd
                                    (Prod.snd
                                      (Prod.snd
                                        (Prod.snd
                                          (Prod.snd
                                            (Prod.snd
                                              (Prod.snd
                                                (Prod.snd
                                                  (Prod.snd (Prod.snd (Prod.snd (Prod.snd (Prod.snd val)))))))))))))).1,
                              (((), ()), (), (), ()), ((), ()),
                              (Prod.snd
                                  (Prod.snd
                                    (Prod.snd
                                      (Prod.snd
                                        (Prod.snd
                                          (Prod.snd
                                            (Prod.snd
                                              (Prod.snd
                                                (Prod.snd
                                                  (Prod.snd
                                                    (Prod.snd (Prod.snd (Prod.snd (Prod.snd (Prod.snd val))))))))))))))).1,
                              (Prod.snd
                                  (Prod.snd
                                    (Prod.snd
                                      (Prod.snd
                                        (Prod.snd
                                          (Prod.snd
                                            (Prod.snd
                                              (Prod.snd
                                                (Prod.snd
                                                  (Prod.snd
                                                    (Prod.snd
                                                      (Prod.snd
                                                        (Prod.snd (Prod.snd (Prod.snd (Prod.snd val)))))))))))))))).1,
                              (((), ()), (), (), ()),
                              (Prod.snd
                                  (Prod.snd
                                    (Prod.snd
                                      (Prod.snd
                                        (Prod.snd
                                          (Prod.snd (Prod.snd (Prod.snd (Prod.snd (Prod.snd (Prod.snd val))))))))))).1,
                              (Prod.snd
                                  (Prod.snd
                                    (Prod.snd
                                      (Prod.snd
                                        (Prod.snd
                                          (Prod.snd
                                            (Prod.snd (Prod.snd (Prod.snd (Prod.snd (Prod.snd (Prod.snd val)))))))))))).1,
                              ()))
                          fun val =>
                          if
                              (!(Prod.snd
                                      (Prod.snd
                                        (Prod.snd
                                          (Prod.snd (Prod.snd (Prod.snd (Prod.snd (Prod.fst (Prod.snd val))))))))).1) =
                                true then
                            some
                              ((((Prod.fst val).1, (Prod.snd (Prod.fst val)).1, (Prod.snd (Prod.snd (Prod.fst val))).1, ()),
                                  true, (0 : Int), ()),
                                ((Prod.fst (Prod.snd val)).1, (), (), (), (),
                                  (Prod.snd (Prod.snd (Prod.snd (Prod.snd (Prod.snd (Prod.fst (Prod.snd val))))))).1,
                                  (Prod.fst val).1, true, ()),
                                (), (), (((), ()), (), (), ()), ((), ()), (), (), (((), ()), (), (), ()), (), (),
                                (Prod.snd
                                    (Prod.snd
                                      (Prod.snd
                                        (Prod.snd
                                          (Prod.snd
                                            (Prod.snd (Prod.snd (Prod.snd (Prod.snd (Prod.snd (Prod.snd val))))))))))).1,
                                (Prod.snd
                                    (Prod.snd
                                      (Prod.snd
                                        (Prod.snd
                                          (Prod.snd
                                            (Prod.snd
                                              (Prod.snd (Prod.snd (Prod.snd (Prod.snd (Prod.snd (Prod.snd val)))))))))))).1,
                                (Prod.snd
                                    (Prod.snd
                                      (Prod.snd
                                        (Prod.snd
                                          (Prod.snd
                                            (Prod.snd
                                              (Prod.snd
                                                (Prod.snd
                                                  (Prod.snd (Prod.snd (Prod.snd (Prod.snd (Prod.snd val))))))))))))).1,
                                (Prod.snd
                                    (Prod.snd
                                      (Prod.snd
                                        (Prod.snd
                                          (Prod.snd
                                            (Prod.snd
                                              (Prod.snd
                                                (Prod.snd
                                                  (Prod.snd
                                                    (Prod.snd (Prod.snd (Prod.snd (Prod.snd (Prod.snd val)))))))))))))).1,
                                (Prod.snd
                                    (Prod.snd
                                      (Prod.snd
                                        (Prod.snd
                                          (Prod.snd
                                            (Prod.snd
                                              (Prod.snd
                                                (Prod.snd
                                                  (Prod.snd
                                                    (Prod.snd
                                                      (Prod.snd
                                                        (Prod.snd (Prod.snd (Prod.snd (Prod.snd val))))))))))))))).1,
                                (Prod.snd
                                    (Prod.snd
                                      (Prod.snd
                                        (Prod.snd
                                          (Prod.snd
                                            (Prod.snd
                                              (Prod.snd
                                                (Prod.snd
                                                  (Prod.snd
                                                    (Prod.snd
                                                      (Prod.snd
                                                        (Prod.snd
                                                          (Prod.snd (Prod.snd (Prod.snd (Prod.snd val)))))))))))))))).1,
                                ())
                          else
                            if
                                decide
                                    ((Prod.snd
                                          (Prod.snd
                                            (Prod.snd (Prod.snd (Prod.snd (Prod.snd (Prod.fst (Prod.snd val)))))))).1 <
                                      (Prod.fst val).1) =
                                  true then
                              some
                                ((((Prod.fst val).1, (Prod.snd (Prod.fst val)).1, (Prod.snd (Prod.snd (Prod.fst val))).1,
                                      ()),
                                    true, (0 : Int), ()),
                                  ((Prod.fst (Prod.snd val)).1, (), (), (), (),
                                    (Prod.snd (Prod.snd (Prod.snd (Prod.snd (Prod.snd (Prod.fst (Prod.snd val))))))).1,
                                    (Prod.fst val).1, true, ()),
                                  (), (), (((), ()), (), (), ()), ((), ()), (), (), (((), ()), (), (), ()), (), (),
                                  (Prod.snd
                                      (Prod.snd
                                        (Prod.snd
                                          (Prod.snd
                                            (Prod.snd
                                              (Prod.snd (Prod.snd (Prod.snd (Prod.snd (Prod.snd (Prod.snd val))))))))))).1,
                                  (Prod.snd
                                      (Prod.snd
                                        (Prod.snd
                                          (Prod.snd
                                            (Prod.snd
                                              (Prod.snd
                                                (Prod.snd
                                                  (Prod.snd (Prod.snd (Prod.snd (Prod.snd (Prod.snd val)))))))))))).1,
                                  (Prod.snd
                                      (Prod.snd
                                        (Prod.snd
                                          (Prod.snd
                                            (Prod.snd
                                              (Prod.snd
                                                (Prod.snd
                                                  (Prod.snd
                                                    (Prod.snd (Prod.snd (Prod.snd (Prod.snd (Prod.snd val))))))))))))).1,
                                  (Prod.snd
                                      (Prod.snd
                                        (Prod.snd
                                          (Prod.snd
                                            (Prod.snd
                                              (Prod.snd
                                                (Prod.snd
                                                  (Prod.snd
                                                    (Prod.snd
                                                      (Prod.snd (Prod.snd (Prod.snd (Prod.snd (Prod.snd val)))))))))))))).1,
                                  (Prod.snd
                                      (Prod.snd
                                        (Prod.snd
                                          (Prod.snd
                                            (Prod.snd
                                              (Prod.snd
                                                (Prod.snd
                                                  (Prod.snd
                                                    (Prod.snd
                                                      (Prod.snd
                                                        (Prod.snd
                                                          (Prod.snd (Prod.snd (Prod.snd (Prod.snd val))))))))))))))).1,
                                  (Prod.snd
                                      (Prod.snd
                                        (Prod.snd
                                          (Prod.snd
                                            (Prod.snd
                                              (Prod.snd
                                                (Prod.snd
                                                  (Prod.snd
                                                    (Prod.snd
                                                      (Prod.snd
                                                        (Prod.snd
                                                          (Prod.snd
                                                            (Prod.snd (Prod.snd (Prod.snd (Prod.snd val)))))))))))))))).1,
                                  ())
                            else
                              some
                                ((((Prod.fst val).1, (Prod.snd (Prod.fst val)).1, (Prod.snd (Prod.snd (Prod.fst val))).1,
                                      ()),
                                    true, (0 : Int), ()),
                                  ((Prod.fst (Prod.snd val)).1, (), (), (), (),
                                    (Prod.snd (Prod.snd (Prod.snd (Prod.snd (Prod.snd (Prod.fst (Prod.snd val))))))).1,
                                    (Prod.snd
                                        (Prod.snd (Prod.snd (Prod.snd (Prod.snd (Prod.snd (Prod.fst (Prod.snd val)))))))).1,
                                    (Prod.snd
                                        (Prod.snd
                                          (Prod.snd
                                            (Prod.snd (Prod.snd (Prod.snd (Prod.snd (Prod.fst (Prod.snd val))))))))).1,
                                    ()),
                                  (), (), (((), ()), (), (), ()), ((), ()), (), (), (((), ()), (), (), ()), (), (),
                                  (Prod.snd
                                      (Prod.snd
                                        (Prod.snd
                                          (Prod.snd
                                            (Prod.snd
                                              (Prod.snd (Prod.snd (Prod.snd (Prod.snd (Prod.snd (Prod.snd val))))))))))).1,
                                  (Prod.snd
                                      (Prod.snd
                                        (Prod.snd
                                          (Prod.snd
                                            (Prod.snd
                                              (Prod.snd
                                                (Prod.snd
                                                  (Prod.snd (Prod.snd (Prod.snd (Prod.snd (Prod.snd val)))))))))))).1,
                                  (Prod.snd
                                      (Prod.snd
                                        (Prod.snd
                                          (Prod.snd
                                            (Prod.snd
                                              (Prod.snd
                                                (Prod.snd
                                                  (Prod.snd
                                                    (Prod.snd (Prod.snd (Prod.snd (Prod.snd (Prod.snd val))))))))))))).1,
                                  (Prod.snd
                                      (Prod.snd
                                        (Prod.snd
                                          (Prod.snd
                                            (Prod.snd
                                              (Prod.snd
                                                (Prod.snd
                                                  (Prod.snd
                                                    (Prod.snd
                                                      (Prod.snd (Prod.snd (Prod.snd (Prod.snd (Prod.snd val)))))))))))))).1,
                                  (Prod.snd
                                      (Prod.snd
                                        (Prod.snd
                                          (Prod.snd
                                            (Prod.snd
                                              (Prod.snd
                                                (Prod.snd
                                                  (Prod.snd
                                                    (Prod.snd
                                                      (Prod.snd
                                                        (Prod.snd
                                                          (Prod.snd (Prod.snd (Prod.snd (Prod.snd val))))))))))))))).1,
                                  (Prod.snd
                                      (Prod.snd
                                        (Prod.snd
                                          (Prod.snd
                                            (Prod.snd
                                              (Prod.snd
                                                (Prod.snd
                                                  (Prod.snd
                                                    (Prod.snd
                                                      (Prod.snd
                                                        (Prod.snd
                                                          (Prod.snd
                                                            (Prod.snd (Prod.snd (Prod.snd (Prod.snd val)))))))))))))))).1,
                                  ())
                      else none
                    else none
          else none
noncomputable def T12 (K : Nat) : List (Entry Try.prog) := [E26, E27b K, E27w K, E14, E28 K]
noncomputable def cuts12 (K : Nat) : List (Cut (AT alts12)) := []
theorem e12 (k : Nat) : ∀ x y, F12 k x y = codeJ Try.prog (tableJ (T12 k)) (Lof 10 k (cuts12 k)) body12 (st0M pin12 os12 x y) (endJ Try.prog 10 [.cell 4 31, .tmp 5, .tmp 6] alts12) := by
  rintro ⟨⟨⟩, ⟨⟨a1, ⟨a2, ⟨a3, ⟨⟩⟩⟩⟩, ⟨⟩⟩⟩ ⟨⟨a4, ⟨⟨⟩, ⟨⟨⟩, ⟨⟨⟩, ⟨⟨⟩, ⟨a5, ⟨a6, ⟨a7, ⟨⟩⟩⟩⟩⟩⟩⟩⟩⟩, ⟨a8, ⟨a9, ⟨⟨⟨⟨⟩, ⟨⟩⟩, ⟨⟨⟩, ⟨⟨⟩, ⟨⟩⟩⟩⟩, ⟨⟨⟨⟩, ⟨⟩⟩, ⟨a10, ⟨a11, ⟨⟨⟨⟨⟩, ⟨⟩⟩, ⟨⟨⟩, ⟨⟨⟩, ⟨⟩⟩⟩⟩, ⟨a12, ⟨a13, ⟨⟩⟩⟩⟩⟩⟩⟩⟩⟩⟩⟩; kernel_rfl
theorem k12 (k : Nat) : FnOK Try.prog 12 pin12 os12 alts12 (F12 k) :=
  fn_okM (fn := Try.f12) (body := body12) (cuts := cuts12 k) (k := k) (C := tableJ (T12 k)) (C' := tableJ (T12 k)) (table_ok _) (table_nat _) (table_ok _) mixed (by kernel_rfl) (by kernel_rfl) (by decide) (by kernel_rfl) (fun x => Nat.le_of_ble_eq_true (by kernel_rfl))
    (fun c h => by cases h) (fun c h => by cases h) (e12 k)
noncomputable def E12 (k : Nat) : Entry Try.prog := ⟨12, pin12, os12, alts12, F12 k, k12 k, rfl⟩
/-! 13 Pop -/
abbrev pin13 : VPL := (.cons (.ptr 0 0) .nil)
abbrev os13 : List OP := [.box (.cons (.int .i64) (.cons (.full 1) (.cons (.full 2) (.cons (.ptr 3 0) (.cons (.ptr 7 0) (.cons (.int .u64) (.cons (.int .i64) (.cons .bool .nil)))))))) true, .row (.many [.int .i64, .int .i64, .int .i64, .int .u64]) true, .row (.one (.int .i64)) true, .box (.cons (.fn 22 (.cons (.ptr 4 0) .nil)) (.cons (.full 5) (.cons (.full 6) .nil))) true, .box (.cons (.ptr 0 0) .nil) true, .row (.one (.int .i64)) true, .row (.one (.int .i64)) true, .box (.cons (.fn 24 (.cons (.ptr 4 0) .nil)) (.cons (.full 8) (.cons (.full 9) .nil))) true, .row (.one (.int .i64)) true, .row (.one (.int .i64)) true]
abbrev alts13 : List Alt := [(.tup (.cons (.agg (.cons (.int .i64) (.cons (.int .i64) (.cons (.int .i64) .nil)))) (.cons .bool .nil)), [.box (.cons (.int .i64) (.cons (.full 10) (.cons (.full 11) (.cons (.ptr 3 0) (.cons (.ptr 7 0) (.cons (.int .u64) (.cons (.int .i64) (.cons .bool .nil)))))))) true, .gone, .gone, .box (.cons (.fn 22 (.cons (.ptr 4 0) .nil)) (.cons (.full 12) (.cons (.full 13) .nil))) true, .box (.cons (.ptr 0 0) .nil) true, .gone, .gone, .box (.cons (.fn 24 (.cons (.ptr 4 0) .nil)) (.cons (.full 14) (.cons (.full 15) .nil))) true, .gone, .gone, .row (.many [.int .i64, .int .i64, .int .i64, .int .u64]) true, .row (.one (.int .i64)) true, .row (.one (.int .i64)) true, .row (.one (.int .i64)) true, .row (.one (.int .i64)) true, .row (.one (.int .i64)) true])]
noncomputable def body13 : Code := match Try.f13.body with
  | some c => c
  | none => .skip
def F13 (k : Nat) : pin13.T → OPL.T os13 → Option (AT alts13)
  | ((), ()), ((a1, ((), ((), ((), ((), (a2, (a3, (a4, ())))))))), (a5, (a6, ((((), ()), ((), ((), ()))), (((), ()), (a7, (a8, ((((), ()), ((), ((), ()))), (a9, (a10, ())))))))))) =>
    Option.bind
      (F14 ((), ())
        ((a1, (), (), (), (), a2, a3, a4, ()), a5, a6, (((), ()), (), (), ()), ((), ()), a7, a8, (((), ()), (), (), ()), a9,
          a10, ()))
      fun val =>
      if decide (val.1 = (0 : Int)) = true then
        some
          ((((0 : Int), (0 : Int), (0 : Int), ()), false, ()), (a1, (), (), (), (), a2, a3, a4, ()), (), (),
            (((), ()), (), (), ()), ((), ()), (), (), (((), ()), (), (), ()), (), (), a5, a6, a7, a8, a9, a10, ())
      else
        if (0 : Int) ≤ (0 : Int) ∧ (0 : Int) < (↑(List.length a7) : Int) then
          if (0 : Nat) < List.length a7 then
            Option.bind
              ((F28 k) ((), List.getD a7 (0 : Nat) (0 : Int), ())
                ((a1, (), (), (), (), a2, a3, a4, ()), a5, a6, (((), ()), (), (), ()), ((), ()), a7, a8,
                  (((), ()), (), (), ()), a9, a10, ()))
              fun val =>
              some
                ((((Prod.fst val).1, (Prod.snd (Prod.fst val)).1, (Prod.snd (Prod.snd (Prod.fst val))).1, ()), true, ()),
                  ((Prod.fst (Prod.snd val)).1, (), (), (), (),
                    (Prod.snd (Prod.snd (Prod.snd (Prod.snd (Prod.snd (Prod.fst (Prod.snd val))))))).1,
                    (Prod.snd (Prod.snd (Prod.snd (Prod.snd (Prod.snd (Prod.snd (Prod.fst (Prod.snd val)))))))).1,
                    (Prod.snd
                        (Prod.snd (Prod.snd (Prod.snd (Prod.snd (Prod.snd (Prod.snd (Prod.fst (Prod.snd val))))))))).1,
                    ()),
                  (), (), (((), ()), (), (), ()), ((), ()), (), (), (((), ()), (), (), ()), (), (),
                  (Prod.snd
                      (Prod.snd
                        (Prod.snd
                          (Prod.snd (Prod.snd (Prod.snd (Prod.snd (Prod.snd (Prod.snd (Prod.snd (Prod.snd val))))))))))).1,
                  (Prod.snd
                      (Prod.snd
                        (Prod.snd
                          (Prod.snd
                            (Prod.snd
                              (Prod.snd (Prod.snd (Prod.snd (Prod.snd (Prod.snd (Prod.snd (Prod.snd val)))))))))))).1,
                  (Prod.snd
                      (Prod.snd
                        (Prod.snd
                          (Prod.snd
                            (Prod.snd
                              (Prod.snd
                                (Prod.snd (Prod.snd (Prod.snd (Prod.snd (Prod.snd (Prod.snd (Prod.snd val))))))))))))).1,
                  (Prod.snd
                      (Prod.snd
                        (Prod.snd
                          (Prod.snd
                            (Prod.snd
                              (Prod.snd
                                (Prod.snd
                                  (Prod.snd (Prod.snd (Prod.snd (Prod.snd (Prod.snd (Prod.snd (Prod.snd val)))))))))))))).1,
                  (Prod.snd
                      (Prod.snd
                        (Prod.snd
                          (Prod.snd
                            (Prod.snd
                              (Prod.snd
                                (Prod.snd
                                  (Prod.snd
                                    (Prod.snd
                                      (Prod.snd (Prod.snd (Prod.snd (Prod.snd (Prod.snd (Prod.snd val))))))))))))))).1,
                  (Prod.snd
                      (Prod.snd
                        (Prod.snd
                          (Prod.snd
                            (Prod.snd
                              (Prod.snd
                                (Prod.snd
                                  (Prod.snd
                                    (Prod.snd
                                      (Prod.snd
                                        (Prod.snd (Prod.snd (Prod.snd (Prod.snd (Prod.snd (Prod.snd val)))))))))))))))).1,
                  ())
          else none
        else none
noncomputable def T13 (K : Nat) : List (Entry Try.prog) := [E14, E28 K]
noncomputable def cuts13 (K : Nat) : List (Cut (AT alts13)) := []
theorem e13 (k : Nat) : ∀ x y, F13 k x y = codeJ Try.prog (tableJ (T13 k)) (Lof 10 k (cuts13 k)) body13 (st0M pin13 os13 x y) (endJ Try.prog 10 [.cell 2 31, .tmp 3] alts13) := by
  rintro ⟨⟨⟩, ⟨⟩⟩ ⟨⟨a1, ⟨⟨⟩, ⟨⟨⟩, ⟨⟨⟩, ⟨⟨⟩, ⟨a2, ⟨a3, ⟨a4, ⟨⟩⟩⟩⟩⟩⟩⟩⟩⟩, ⟨a5, ⟨a6, ⟨⟨⟨⟨⟩, ⟨⟩⟩, ⟨⟨⟩, ⟨⟨⟩, ⟨⟩⟩⟩⟩, ⟨⟨⟨⟩, ⟨⟩⟩, ⟨a7, ⟨a8, ⟨⟨⟨⟨⟩, ⟨⟩⟩, ⟨⟨⟩, ⟨⟨⟩, ⟨⟩⟩⟩⟩, ⟨a9, ⟨a10, ⟨⟩⟩⟩⟩⟩⟩⟩⟩⟩⟩⟩; kernel_rfl
theorem k13 (k : Nat) : FnOK Try.prog 13 pin13 os13 alts13 (F13 k) :=
  fn_okM (fn := Try.f13) (body := body13) (cuts := cuts13 k) (k := k) (C := tableJ (T13 k)) (C' := tableJ (T13 k)) (table_ok _) (table_nat _) (table_ok _) mixed (by kernel_rfl) (by kernel_rfl) (by decide) (by kernel_rfl) (fun x => Nat.le_of_ble_eq_true (by kernel_rfl))
    (fun c h => by cases h) (fun c h => by cases h) (e13 k)
noncomputable def E13 (k : Nat) : Entry Try.prog := ⟨13, pin13, os13, alts13, F13 k, k13 k, rfl⟩
/-! 9 New -/
abbrev pin9 : VPL := (.cons (.int .i64) .nil)
abbrev os9 : List OP := []
abbrev alts9 : List Alt := [(.tup (.cons .nilp (.cons (.int .i64) .nil)), []), (.tup (.cons (.ptr 0 0) (.cons (.int .i64) .nil)), [.box (.cons (.int .i64) (.cons (.full 1) (.cons (.full 2) (.cons (.ptr 3 0) (.cons (.ptr 7 0) (.cons (.int .u64) (.cons (.int .i64) (.cons .bool .nil)))))))) true, .row (.many [.int .i64, .int .i64, .int .i64, .int .u64]) true, .row (.one (.int .i64)) true, .box (.cons (.fn 22 (.cons (.ptr 4 0) .nil)) (.cons (.full 5) (.cons (.full 6) .nil))) true, .box (.cons (.ptr 0 0) .nil) true, .row (.one (.int .i64)) true, .row (.one (.int .i64)) true, .box (.cons (.fn 24 (.cons (.ptr 4 0) .nil)) (.cons (.full 8) (.cons (.full 9) .nil))) true, .row (.one (.int .i64)) true, .row (.one (.int .i64)) true])]
noncomputable def body9 : Code := match Try.f9.body with
  | some c => c
  | none => .skip
def F9 : pin9.T → OPL.T os9 → Option (AT alts9)
  | (a1, ()), () =>
    if decide (a1 < (1 : Int)) = true then some (Sum.inl (((), (1 : Int), ()), ()))
    else
      if decide ((65536 : Int) < a1) = true then some (Sum.inl (((), (1 : Int), ()), ()))
      else
        some
          (Sum.inr
            (((), (0 : Int), ()), (a1, (), (), (), (), (0 : Int), (0 : Int), false, ()), [], [], (((), ()), (), (), ()),
              ((), ()), [], [], (((), ()), (), (), ()), [], [], ()))
noncomputable def T9 : List (Entry Try.prog) := []
noncomputable def cuts9 : List (Cut (AT alts9)) := []
theorem e9 : ∀ x y, F9 x y = codeJ Try.prog (tableJ (T9)) (Lof 0 0 (cuts9)) body9 (st0 pin9 os9 x y) (endJ Try.prog 0 [.tmp 2, .tmp 3] alts9) := by
  rintro ⟨a1, ⟨⟩⟩ ⟨⟩; kernel_rfl
theorem k9 : FnOK Try.prog 9 pin9 os9 alts9 (F9) :=
  fn_ok (fn := Try.f9) (body := body9) (cuts := cuts9) (k := 0) (C := tableJ (T9)) (C' := tableJ (T9)) (table_ok _) (table_nat _) (table_ok _) mixed (by kernel_rfl) (by kernel_rfl) (by decide) (by kernel_rfl) (fun x => Nat.le_of_ble_eq_true (by kernel_rfl))
    (fun c h => by cases h) (fun c h => by cases h) (e9)
noncomputable def E9 : Entry Try.prog := ⟨9, pin9, os9, alts9, F9, k9, rfl⟩
/-! 10 num -/
abbrev pin10 : VPL := (.cons (.int .i64) .nil)
abbrev os10 : List OP := []
abbrev alts10 : List Alt := [(.int .i64, [])]
noncomputable def body10 : Code := match Try.f10.body with
  | some c => c
  | none => .skip
def F10 : pin10.T → OPL.T os10 → Option (AT alts10)
  | (a1, ()), () =>
    some (a1, ())
noncomputable def T10 : List (Entry Try.prog) := []
noncomputable def cuts10 : List (Cut (AT alts10)) := []
theorem e10 : ∀ x y, F10 x y = codeJ Try.prog (tableJ (T10)) (Lof 0 0 (cuts10)) body10 (st0 pin10 os10 x y) (endJ Try.prog 0 [.tmp 2] alts10) := by
  rintro ⟨a1, ⟨⟩⟩ ⟨⟩; kernel_rfl
theorem k10 : FnOK Try.prog 10 pin10 os10 alts10 (F10) :=
  fn_ok (fn := Try.f10) (body := body10) (cuts := cuts10) (k := 0) (C := tableJ (T10)) (C' := tableJ (T10)) (table_ok _) (table_nat _) (table_ok _) mixed (by kernel_rfl) (by kernel_rfl) (by decide) (by kernel_rfl) (fun x => Nat.le_of_ble_eq_true (by kernel_rfl))
    (fun c h => by cases h) (fun c h => by cases h) (e10)
noncomputable def E10 : Entry Try.prog := ⟨10, pin10, os10, alts10, F10, k10, rfl⟩
/-! 15 Worst -/
abbrev pin15 : VPL := (.cons (.ptr 0 0) .nil)
abbrev os15 : List OP := [.box (.cons (.int .i64) (.cons (.full 1) (.cons (.full 2) (.cons (.ptr 3 0) (.cons (.ptr 7 0) (.cons (.int .u64) (.cons (.int .i64) (.cons .bool .nil)))))))) false, .row (.many [.int .i64, .int .i64, .int .i64, .int .u64]) false, .row (.one (.int .i64)) false, .box (.cons (.fn 22 (.cons (.ptr 4 0) .nil)) (.cons (.full 5) (.cons (.full 6) .nil))) false, .box (.cons (.ptr 0 0) .nil) false, .row (.one (.int .i64)) false, .row (.one (.int .i64)) false, .box (.cons (.fn 24 (.cons (.ptr 4 0) .nil)) (.cons (.full 8) (.cons (.full 9) .nil))) false, .row (.one (.int .i64)) false, .row (.one (.int .i64)) false]
abbrev alts15 : List Alt := [(.tup (.cons (.agg (.cons (.int .i64) (.cons (.int .i64) (.cons (.int .i64) .nil)))) (.cons .bool .nil)), [.box (.cons (.int .i64) (.cons (.full 1) (.cons (.full 2) (.cons (.ptr 3 0) (.cons (.ptr 7 0) (.cons (.int .u64) (.cons (.int .i64) (.cons .bool .nil)))))))) false, .row (.many [.int .i64, .int .i64, .int .i64, .int .u64]) false, .row (.one (.int .i64)) false, .box (.cons (.fn 22 (.cons (.ptr 4 0) .nil)) (.cons (.full 5) (.cons (.full 6) .nil))) false, .box (.cons (.ptr 0 0) .nil) false, .row (.one (.int .i64)) false, .row (.one (.int .i64)) false, .box (.cons (.fn 24 (.cons (.ptr 4 0) .nil)) (.cons (.full 8) (.cons (.full 9) .nil))) false, .row (.one (.int .i64)) false, .row (.one (.int .i64)) false])]
noncomputable def body15 : Code := match Try.f15.body with
  | some c => c
  | none => .skip
def F15 : pin15.T → OPL.T os15 → Option (AT alts15)
  | ((), ()), ((a1, ((), ((), ((), ((), (a2, (a3, (a4, ())))))))), (a5, (a6, ((((), ()), ((), ((), ()))), (((), ()), (a7, (a8, ((((), ()), ((), ((), ()))), (a9, (a10, ())))))))))) =>
    Option.bind
      (F14 ((), ())
        ((a1, (), (), (), (), a2, a3, a4, ()), a5, a6, (((), ()), (), (), ()), ((), ()), a7, a8, (((), ()), (), (), ()), a9,
          a10, ()))
      fun val =>
      if decide (val.1 = (0 : Int)) = true then
        some
          ((((0 : Int), (0 : Int), (0 : Int), ()), false, ()), (a1, (), (), (), (), a2, a3, a4, ()), a5, a6,
            (((), ()), (), (), ()), ((), ()), a7, a8, (((), ()), (), (), ()), a9, a10, ())
      else
        if (0 : Int) ≤ (0 : Int) ∧ (0 : Int) < (↑(List.length a9) : Int) then
          if (0 : Nat) < List.length a9 then
            if
                (0 : Int) ≤ List.getD a9 (0 : Nat) (0 : Int) ∧
                  List.getD a9 (0 : Nat) (0 : Int) < (↑(List.length a5) : Int) then
              if Int.toNat (List.getD a9 (0 : Nat) (0 : Int)) < List.length a5 then
                some
                  ((((List.getD
                            (Prod.fst
                              (Prod.snd
                                ((a1, (), (), (), (), a2, a3, a4, ()), a5, a6, (((), ()), (), (), ()), ((), ()), a7, a8,
                                  (((), ()), (), (), ()), a9, a10, ())))
                            (Int.toNat
                              (List.getD
                                (Prod.fst
                                  (Prod.snd
                                    (Prod.snd
                                      (Prod.snd
                                        (Prod.snd
                                          (Prod.snd
                                            (Prod.snd
                                              (Prod.snd
                                                (Prod.snd
                                                  ((a1, (), (), (), (), a2, a3, a4, ()), a5, a6, (((), ()), (), (), ()),
                                                    ((), ()), a7, a8, (((), ()), (), (), ()), a9, a10, ()))))))))))
                                (Int.toNat (0 : Int)) (EK.dflt (EK.one (SK.int IntKind.i64)))))
                            (EK.dflt
                              (EK.many
                                [SK.int IntKind.i64, SK.int IntKind.i64, SK.int IntKind.i64, SK.int IntKind.u64]))).1,
                        (Prod.snd
                            (List.getD
                              (Prod.fst
                                (Prod.snd
                                  ((a1, (), (), (), (), a2, a3, a4, ()), a5, a6, (((), ()), (), (), ()), ((), ()), a7, a8,
                                    (((), ()), (), (), ()), a9, a10, ())))
                              (Int.toNat
                                (List.getD
                                  (Prod.fst
                                    (Prod.snd
                                      (Prod.snd
                                        (Prod.snd
                                          (Prod.snd
                                            (Prod.snd
                                              (Prod.snd
                                                (Prod.snd
                                                  (Prod.snd
                                                    ((a1, (), (), (), (), a2, a3, a4, ()), a5, a6, (((), ()), (), (), ()),
                                                      ((), ()), a7, a8, (((), ()), (), (), ()), a9, a10, ()))))))))))
                                  (Int.toNat (0 : Int)) (EK.dflt (EK.one (SK.int IntKind.i64)))))
                              (EK.dflt
                                (EK.many
                                  [SK.int IntKind.i64, SK.int IntKind.i64, SK.int IntKind.i64, SK.int IntKind.u64])))).1,
                        (Prod.snd
                            (Prod.snd
                              (List.getD
                                (Prod.fst
                                  (Prod.snd
                                    ((a1, (), (), (), (), a2, a3, a4, ()), a5, a6, (((), ()), (), (), ()), ((), ()), a7, a8,
                                      (((), ()), (), (), ()), a9, a10, ())))
                                (Int.toNat
                                  (List.getD
                                    (Prod.fst
                                      (Prod.snd
                                        (Prod.snd
                                          (Prod.snd
                                            (Prod.snd
                                              (Prod.snd
                                                (Prod.snd
                                                  (Prod.snd
                                                    (Prod.snd
                                                      ((a1, (), (), (), (), a2, a3, a4, ()), a5, a6, (((), ()), (), (), ()),
                                                        ((), ()), a7, a8, (((), ()), (), (), ()), a9, a10, ()))))))))))
                                    (Int.toNat (0 : Int)) (EK.dflt (EK.one (SK.int IntKind.i64)))))
                                (EK.dflt
                                  (EK.many
                                    [SK.int IntKind.i64, SK.int IntKind.i64, SK.int IntKind.i64, SK.int IntKind.u64]))))).1,
                        ()),
                      true, ()),
                    (a1, (), (), (), (), a2, a3, a4, ()), a5, a6, (((), ()), (), (), ()), ((), ()), a7, a8,
                    (((), ()), (), (), ()), a9, a10, ())
              else none
            else none
          else none
        else none
noncomputable def T15 : List (Entry Try.prog) := [E14]
noncomputable def cuts15 : List (Cut (AT alts15)) := []
theorem e15 : ∀ x y, F15 x y = codeJ Try.prog (tableJ (T15)) (Lof 10 0 (cuts15)) body15 (st0 pin15 os15 x y) (endJ Try.prog 10 [.cell 2 31, .tmp 3] alts15) := by
  rintro ⟨⟨⟩, ⟨⟩⟩ ⟨⟨a1, ⟨⟨⟩, ⟨⟨⟩, ⟨⟨⟩, ⟨⟨⟩, ⟨a2, ⟨a3, ⟨a4, ⟨⟩⟩⟩⟩⟩⟩⟩⟩⟩, ⟨a5, ⟨a6, ⟨⟨⟨⟨⟩, ⟨⟩⟩, ⟨⟨⟩, ⟨⟨⟩, ⟨⟩⟩⟩⟩, ⟨⟨⟨⟩, ⟨⟩⟩, ⟨a7, ⟨a8, ⟨⟨⟨⟨⟩, ⟨⟩⟩, ⟨⟨⟩, ⟨⟨⟩, ⟨⟩⟩⟩⟩, ⟨a9, ⟨a10, ⟨⟩⟩⟩⟩⟩⟩⟩⟩⟩⟩⟩; kernel_rfl
theorem k15 : FnOK Try.prog 15 pin15 os15 alts15 (F15) :=
  fn_ok (fn := Try.f15) (body := body15) (cuts := cuts15) (k := 0) (C := tableJ (T15)) (C' := tableJ (T15)) (table_ok _) (table_nat _) (table_ok _) mixed (by kernel_rfl) (by kernel_rfl) (by decide) (by kernel_rfl) (fun x => Nat.le_of_ble_eq_true (by kernel_rfl))
    (fun c h => by cases h) (fun c h => by cases h) (e15)
noncomputable def E15 : Entry Try.prog := ⟨15, pin15, os15, alts15, F15, k15, rfl⟩
/-! 25 Top -/
abbrev pin25 : VPL := (.cons (.ptr 0 0) .nil)
abbrev os25 : List OP := [.box (.cons (.int .i64) (.cons (.full 1) (.cons (.full 2) (.cons (.ptr 3 0) (.cons (.ptr 7 0) (.cons (.int .u64) (.cons (.int .i64) (.cons .bool .nil)))))))) false, .row (.many [.int .i64, .int .i64, .int .i64, .int .u64]) false, .row (.one (.int .i64)) false, .box (.cons (.fn 22 (.cons (.ptr 4 0) .nil)) (.cons (.full 5) (.cons (.full 6) .nil))) false, .box (.cons (.ptr 0 0) .nil) false, .row (.one (.int .i64)) false, .row (.one (.int .i64)) false, .box (.cons (.fn 24 (.cons (.ptr 4 0) .nil)) (.cons (.full 8) (.cons (.full 9) .nil))) false, .row (.one (.int .i64)) false, .row (.one (.int .i64)) false]
abbrev alts25 : List Alt := [(.tup (.cons (.agg (.cons (.int .i64) (.cons (.int .i64) (.cons (.int .i64) .nil)))) (.cons .bool .nil)), [.box (.cons (.int .i64) (.cons (.full 1) (.cons (.full 2) (.cons (.ptr 3 0) (.cons (.ptr 7 0) (.cons (.int .u64) (.cons (.int .i64) (.cons .bool .nil)))))))) false, .row (.many [.int .i64, .int .i64, .int .i64, .int .u64]) false, .row (.one (.int .i64)) false, .box (.cons (.fn 22 (.cons (.ptr 4 0) .nil)) (.cons (.full 5) (.cons (.full 6) .nil))) false, .box (.cons (.ptr 0 0) .nil) false, .row (.one (.int .i64)) false, .row (.one (.int .i64)) false, .box (.cons (.fn 24 (.cons (.ptr 4 0) .nil)) (.cons (.full 8) (.cons (.full 9) .nil))) false, .row (.one (.int .i64)) false, .row (.one (.int .i64)) false])]
noncomputable def body25 : Code := match Try.f25.body with
  | some c => c
  | none => .skip
def F25 : pin25.T → OPL.T os25 → Option (AT alts25)
  | ((), ()), ((a1, ((), ((), ((), ((), (a2, (a3, (a4, ())))))))), (a5, (a6, ((((), ()), ((), ((), ()))), (((), ()), (a7, (a8, ((((), ()), ((), ((), ()))), (a9, (a10, ())))))))))) =>
    Option.bind
      (F14 ((), ())
        ((a1, (), (), (), (), a2, a3, a4, ()), a5, a6, (((), ()), (), (), ()), ((), ()), a7, a8, (((), ()), (), (), ()), a9,
          a10, ()))
      fun val =>
      if decide (val.1 = (0 : Int)) = true then
        some
          ((((0 : Int), (0 : Int), (0 : Int), ()), false, ()), (a1, (), (), (), (), a2, a3, a4, ()), a5, a6,
            (((), ()), (), (), ()), ((), ()), a7, a8, (((), ()), (), (), ()), a9, a10, ())
      else
        if (0 : Int) ≤ (0 : Int) ∧ (0 : Int) < (↑(List.length a7) : Int) then
          if (0 : Nat) < List.length a7 then
            if
                (0 : Int) ≤ List.getD a7 (0 : Nat) (0 : Int) ∧
                  List.getD a7 (0 : Nat) (0 : Int) < (↑(List.length a5) : Int) then
              if Int.toNat (List.getD a7 (0 : Nat) (0 : Int)) < List.length a5 then
                some
                  ((((List.getD
                            (Prod.fst
                              (Prod.snd
                                ((a1, (), (), (), (), a2, a3, a4, ()), a5, a6, (((), ()), (), (), ()), ((), ()), a7, a8,
                                  (((), ()), (), (), ()), a9, a10, ())))
                            (Int.toNat
                              (List.getD
                                (Prod.fst
                                  (Prod.snd
                                    (Prod.snd
                                      (Prod.snd
                                        (Prod.snd
                                          (Prod.snd
                                            ((a1, (), (), (), (), a2, a3, a4, ()), a5, a6, (((), ()), (), (), ()), ((), ()),
                                              a7, a8, (((), ()), (), (), ()), a9, a10, ())))))))
                                (Int.toNat (0 : Int)) (EK.dflt (EK.one (SK.int IntKind.i64)))))
                            (EK.dflt
                              (EK.many
                                [SK.int IntKind.i64, SK.int IntKind.i64, SK.int IntKind.i64, SK.int IntKind.u64]))).1,
                        (Prod.snd
                            (List.getD
                              (Prod.fst
                                (Prod.snd
                                  ((a1, (), (), (), (), a2, a3, a4, ()), a5, a6, (((), ()), (), (), ()), ((), ()), a7, a8,
                                    (((), ()), (), (), ()), a9, a10, ())))
                              (Int.toNat
                                (List.getD
                                  (Prod.fst
                                    (Prod.snd
                                      (Prod.snd
                                        (Prod.snd
                                          (Prod.snd
                                            (Prod.snd
                                              ((a1, (), (), (), (), a2, a3, a4, ()), a5, a6, (((), ()), (), (), ()),
                                                ((), ()), a7, a8, (((), ()), (), (), ()), a9, a10, ())))))))
                                  (Int.toNat (0 : Int)) (EK.dflt (EK.one (SK.int IntKind.i64)))))
                              (EK.dflt
                                (EK.many
                                  [SK.int IntKind.i64, SK.int IntKind.i64, SK.int IntKind.i64, SK.int IntKind.u64])))).1,
                        (Prod.snd
                            (Prod.snd
                              (List.getD
                                (Prod.fst
                                  (Prod.snd
                                    ((a1, (), (), (), (), a2, a3, a4, ()), a5, a6, (((), ()), (), (), ()), ((), ()), a7, a8,
                                      (((), ()), (), (), ()), a9, a10, ())))
                                (Int.toNat
                                  (List.getD
                                    (Prod.fst
                                      (Prod.snd
                                        (Prod.snd
                                          (Prod.snd
                                            (Prod.snd
                                              (Prod.snd
                                                ((a1, (), (), (), (), a2, a3, a4, ()), a5, a6, (((), ()), (), (), ()),
                                                  ((), ()), a7, a8, (((), ()), (), (), ()), a9, a10, ())))))))
                                    (Int.toNat (0 : Int)) (EK.dflt (EK.one (SK.int IntKind.i64)))))
                                (EK.dflt
                                  (EK.many
                                    [SK.int IntKind.i64, SK.int IntKind.i64, SK.int IntKind.i64, SK.int IntKind.u64]))))).1,
                        ()),
                      true, ()),
                    (a1, (), (), (), (), a2, a3, a4, ()), a5, a6, (((), ()), (), (), ()), ((), ()), a7, a8,
                    (((), ()), (), (), ()), a9, a10, ())
              else none
            else none
          else none
        else none
noncomputable def T25 : List (Entry Try.prog) := [E14]
noncomputable def cuts25 : List (Cut (AT alts25)) := []
theorem e25 : ∀ x y, F25 x y = codeJ Try.prog (tableJ (T25)) (Lof 10 0 (cuts25)) body25 (st0 pin25 os25 x y) (endJ Try.prog 10 [.cell 2 31, .tmp 3] alts25) := by
  rintro ⟨⟨⟩, ⟨⟩⟩ ⟨⟨a1, ⟨⟨⟩, ⟨⟨⟩, ⟨⟨⟩, ⟨⟨⟩, ⟨a2, ⟨a3, ⟨a4, ⟨⟩⟩⟩⟩⟩⟩⟩⟩⟩, ⟨a5, ⟨a6, ⟨⟨⟨⟨⟩, ⟨⟩⟩, ⟨⟨⟩, ⟨⟨⟩, ⟨⟩⟩⟩⟩, ⟨⟨⟨⟩, ⟨⟩⟩, ⟨a7, ⟨a8, ⟨⟨⟨⟨⟩, ⟨⟩⟩, ⟨⟨⟩, ⟨⟨⟩, ⟨⟩⟩⟩⟩, ⟨a9, ⟨a10, ⟨⟩⟩⟩⟩⟩⟩⟩⟩⟩⟩⟩; kernel_rfl
theorem k25 : FnOK Try.prog 25 pin25 os25 alts25 (F25) :=
  fn_ok (fn := Try.f25) (body := body25) (cuts := cuts25) (k := 0) (C := tableJ (T25)) (C' := tableJ (T25)) (table_ok _) (table_nat _) (table_ok _) mixed (by kernel_rfl) (by kernel_rfl) (by decide) (by kernel_rfl) (fun x => Nat.le_of_ble_eq_true (by kernel_rfl))
    (fun c h => by cases h) (fun c h => by cases h) (e25)
noncomputable def E25 : Entry Try.prog := ⟨25, pin25, os25, alts25, F25, k25, rfl⟩
/-! 17 Mark -/
abbrev pin17 : VPL := (.cons (.ptr 0 0) .nil)
abbrev os17 : List OP := [.box (.cons (.int .i64) (.cons (.full 1) (.cons (.full 2) (.cons (.ptr 3 0) (.cons (.ptr 7 0) (.cons (.int .u64) (.cons (.int .i64) (.cons .bool .nil)))))))) false, .row (.many [.int .i64, .int .i64, .int .i64, .int .u64]) false, .row (.one (.int .i64)) false, .box (.cons (.fn 22 (.cons (.ptr 4 0) .nil)) (.cons (.full 5) (.cons (.full 6) .nil))) false, .box (.cons (.ptr 0 0) .nil) false, .row (.one (.int .i64)) false, .row (.one (.int .i64)) false, .box (.cons (.fn 24 (.cons (.ptr 4 0) .nil)) (.cons (.full 8) (.cons (.full 9) .nil))) false, .row (.one (.int .i64)) false, .row (.one (.int .i64)) false]
abbrev alts17 : List Alt := [(.tup (.cons (.int .i64) (.cons .bool .nil)), [.box (.cons (.int .i64) (.cons (.full 1) (.cons (.full 2) (.cons (.ptr 3 0) (.cons (.ptr 7 0) (.cons (.int .u64) (.cons (.int .i64) (.cons .bool .nil)))))))) false, .row (.many [.int .i64, .int .i64, .int .i64, .int .u64]) false, .row (.one (.int .i64)) false, .box (.cons (.fn 22 (.cons (.ptr 4 0) .nil)) (.cons (.full 5) (.cons (.full 6) .nil))) false, .box (.cons (.ptr 0 0) .nil) false, .row (.one (.int .i64)) false, .row (.one (.int .i64)) false, .box (.cons (.fn 24 (.cons (.ptr 4 0) .nil)) (.cons (.full 8) (.cons (.full 9) .nil))) false, .row (.one (.int .i64)) false, .row (.one (.int .i64)) false])]
noncomputable def body17 : Code := match Try.f17.body with
  | some c => c
  | none => .skip
def F17 : pin17.T → OPL.T os17 → Option (AT alts17)
  | ((), ()), ((a1, ((), ((), ((), ((), (a2, (a3, (a4, ())))))))), (a5, (a6, ((((), ()), ((), ((), ()))), (((), ()), (a7, (a8, ((((), ()), ((), ((), ()))), (a9, (a10, ())))))))))) =>
    Option.bind
      (F26 ((), ())
        ((a1, (), (), (), (), a2, a3, a4, ()), a5, a6, (((), ()), (), (), ()), ((), ()), a7, a8, (((), ()), (), (), ()), a9,
          a10, ()))
      fun val =>
      if (!val.1) = true then
        some
          (((0 : Int), false, ()), (a1, (), (), (), (), a2, a3, a4, ()), a5, a6, (((), ()), (), (), ()), ((), ()), a7, a8,
            (((), ()), (), (), ()), a9, a10, ())
      else
        some
          ((a3, a4, ()), (a1, (), (), (), (), a2, a3, a4, ()), a5, a6, (((), ()), (), (), ()), ((), ()), a7, a8,
            (((), ()), (), (), ()), a9, a10, ())
noncomputable def T17 : List (Entry Try.prog) := [E26]
noncomputable def cuts17 : List (Cut (AT alts17)) := []
theorem e17 : ∀ x y, F17 x y = codeJ Try.prog (tableJ (T17)) (Lof 10 0 (cuts17)) body17 (st0 pin17 os17 x y) (endJ Try.prog 10 [.tmp 2, .tmp 3] alts17) := by
  rintro ⟨⟨⟩, ⟨⟩⟩ ⟨⟨a1, ⟨⟨⟩, ⟨⟨⟩, ⟨⟨⟩, ⟨⟨⟩, ⟨a2, ⟨a3, ⟨a4, ⟨⟩⟩⟩⟩⟩⟩⟩⟩⟩, ⟨a5, ⟨a6, ⟨⟨⟨⟨⟩, ⟨⟩⟩, ⟨⟨⟩, ⟨⟨⟩, ⟨⟩⟩⟩⟩, ⟨⟨⟨⟩, ⟨⟩⟩, ⟨a7, ⟨a8, ⟨⟨⟨⟨⟩, ⟨⟩⟩, ⟨⟨⟩, ⟨⟨⟩, ⟨⟩⟩⟩⟩, ⟨a9, ⟨a10, ⟨⟩⟩⟩⟩⟩⟩⟩⟩⟩⟩⟩; kernel_rfl
theorem k17 : FnOK Try.prog 17 pin17 os17 alts17 (F17) :=
  fn_ok (fn := Try.f17) (body := body17) (cuts := cuts17) (k := 0) (C := tableJ (T17)) (C' := tableJ (T17)) (table_ok _) (table_nat _) (table_ok _) mixed (by kernel_rfl) (by kernel_rfl) (by decide) (by kernel_rfl) (fun x => Nat.le_of_ble_eq_true (by kernel_rfl))
    (fun c h => by cases h) (fun c h => by cases h) (e17)
noncomputable def E17 : Entry Try.prog := ⟨17, pin17, os17, alts17, F17, k17, rfl⟩
/-! 16 below -/
abbrev pin16 : VPL := (.cons (.agg (.cons (.int .i64) (.cons (.int .i64) (.cons (.int .i64) .nil)))) (.cons (.agg (.cons (.int .i64) (.cons (.int .i64) (.cons (.int .i64) .nil)))) .nil))
abbrev os16 : List OP := []
abbrev alts16 : List Alt := [(.bool, [])]
noncomputable def body16 : Code := match Try.f16.body with
  | some c => c
  | none => .skip
def F16 : pin16.T → OPL.T os16 → Option (AT alts16)
  | ((a1, (a2, (a3, ()))), ((a4, (a5, (a6, ()))), ())), () =>
    if decide (a1 < a4) = true then some (true, ())
    else if decide (a1 = a4) = true then some (decide (a2 ≤ a5), ()) else some (false, ())
noncomputable def T16 : List (Entry Try.prog) := []
noncomputable def cuts16 : List (Cut (AT alts16)) := []
theorem e16 : ∀ x y, F16 x y = codeJ Try.prog (tableJ (T16)) (Lof 0 0 (cuts16)) body16 (st0 pin16 os16 x y) (endJ Try.prog 0 [.tmp 4] alts16) := by
  rintro ⟨⟨a1, ⟨a2, ⟨a3, ⟨⟩⟩⟩⟩, ⟨⟨a4, ⟨a5, ⟨a6, ⟨⟩⟩⟩⟩, ⟨⟩⟩⟩ ⟨⟩; kernel_rfl
theorem k16 : FnOK Try.prog 16 pin16 os16 alts16 (F16) :=
  fn_ok (fn := Try.f16) (body := body16) (cuts := cuts16) (k := 0) (C := tableJ (T16)) (C' := tableJ (T16)) (table_ok _) (table_nat _) (table_ok _) mixed (by kernel_rfl) (by kernel_rfl) (by decide) (by kernel_rfl) (fun x => Nat.le_of_ble_eq_true (by kernel_rfl))
    (fun c h => by cases h) (fun c h => by cases h) (e16)
noncomputable def E16 : Entry Try.prog := ⟨16, pin16, os16, alts16, F16, k16, rfl⟩
/-! 11 knows -/
abbrev pin11 : VPL := .nil
abbrev os11 : List OP := []
abbrev alts11 : List Alt := [(.bool, [])]
noncomputable def body11 : Code := match Try.f11.body with
  | some c => c
  | none => .skip
def F11 (k : Nat) : pin11.T → OPL.T os11 → Option (AT alts11)
  | (), () =>
    Option.bind (F9 ((2 : Int), ()) ()) fun val =>
      Sum.elim
        (fun val =>
          Option.bind (F10 ((Prod.snd (Prod.fst val)).1, ()) ()) fun val =>
            if (!decide (val.1 = (0 : Int))) = true then some (false, ()) else some (false, ()))
        (fun val =>
          Option.bind (F10 ((Prod.snd (Prod.fst val)).1, ()) ()) fun val_1 =>
            if (!decide (val_1.1 = (0 : Int))) = true then some (false, ())
            else
              Option.bind
                ((F12 k) ((), ((1 : Int), (0 : Int), (7 : Int), ()), ())
                  (((Prod.fst (Prod.snd val)).1, (), (), (), (),
                      (Prod.snd (Prod.snd (Prod.snd (Prod.snd (Prod.snd (Prod.fst (Prod.snd val))))))).1,
                      (Prod.snd (Prod.snd (Prod.snd (Prod.snd (Prod.snd (Prod.snd (Prod.fst (Prod.snd val)))))))).1,
                      (Prod.snd
                          (Prod.snd (Prod.snd (Prod.snd (Prod.snd (Prod.snd (Prod.snd (Prod.fst (Prod.snd val))))))))).1,
                      ()),
                    (Prod.snd (Prod.snd val)).1, (Prod.snd (Prod.snd (Prod.snd val))).1, (((), ()), (), (), ()), ((), ()),
                    (Prod.snd (Prod.snd (Prod.snd (Prod.snd (Prod.snd (Prod.snd val)))))).1,
                    (Prod.snd (Prod.snd (Prod.snd (Prod.snd (Prod.snd (Prod.snd (Prod.snd val))))))).1,
                    (((), ()), (), (), ()),
                    (Prod.snd
                        (Prod.snd (Prod.snd (Prod.snd (Prod.snd (Prod.snd (Prod.snd (Prod.snd (Prod.snd val))))))))).1,
                    (Prod.snd
                        (Prod.snd
                          (Prod.snd (Prod.snd (Prod.snd (Prod.snd (Prod.snd (Prod.snd (Prod.snd (Prod.snd val)))))))))).1,
                    ()))
                fun val =>
                Option.bind
                  ((F12 k) ((), ((3 : Int), (0 : Int), (8 : Int), ()), ())
                    (((Prod.fst (Prod.snd val)).1, (), (), (), (),
                        (Prod.snd (Prod.snd (Prod.snd (Prod.snd (Prod.snd (Prod.fst (Prod.snd val))))))).1,
                        (Prod.snd (Prod.snd (Prod.snd (Prod.snd (Prod.snd (Prod.snd (Prod.fst (Prod.snd val)))))))).1,
                        (Prod.snd
                            (Prod.snd (Prod.snd (Prod.snd (Prod.snd (Prod.snd (Prod.snd (Prod.fst (Prod.snd val))))))))).1,
                        ()),
                      (Prod.snd
                          (Prod.snd
                            (Prod.snd
                              (Prod.snd
                                (Prod.snd (Prod.snd (Prod.snd (Prod.snd (Prod.snd (Prod.snd (Prod.snd val))))))))))).1,
                      (Prod.snd
                          (Prod.snd
                            (Prod.snd
                              (Prod.snd
                                (Prod.snd
                                  (Prod.snd (Prod.snd (Prod.snd (Prod.snd (Prod.snd (Prod.snd (Prod.snd val)))))))))))).1,
                      (((), ()), (), (), ()), ((), ()),
                      (Prod.snd
                          (Prod.snd
                            (Prod.snd
                              (Prod.snd
                                (Prod.snd
                                  (Prod.snd
                                    (Prod.snd
                                      (Prod.snd (Prod.snd (Prod.snd (Prod.snd (Prod.snd (Prod.snd val))))))))))))).1,
                      (Prod.snd
                          (Prod.snd
                            (Prod.snd
                              (Prod.snd
                                (Prod.snd
                                  (Prod.snd
                                    (Prod.snd
                                      (Prod.snd
                                        (Prod.snd (Prod.snd (Prod.snd (Prod.snd (Prod.snd (Prod.snd val)))))))))))))).1,
                      (((), ()), (), (), ()),
                      (Prod.snd
                          (Prod.snd
                            (Prod.snd
                              (Prod.snd
                                (Prod.snd
                                  (Prod.snd
                                    (Prod.snd
                                      (Prod.snd
                                        (Prod.snd
                                          (Prod.snd (Prod.snd (Prod.snd (Prod.snd (Prod.snd (Prod.snd val))))))))))))))).1,
                      (Prod.snd
                          (Prod.snd
                            (Prod.snd
                              (Prod.snd
                                (Prod.snd
                                  (Prod.snd
                                    (Prod.snd
                                      (Prod.snd
                                        (Prod.snd
                                          (Prod.snd
                                            (Prod.snd
                                              (Prod.snd (Prod.snd (Prod.snd (Prod.snd (Prod.snd val)))))))))))))))).1,
                      ()))
                  fun val =>
                  Option.bind
                    (F25 ((), ())
                      (((Prod.fst (Prod.snd val)).1, (), (), (), (),
                          (Prod.snd (Prod.snd (Prod.snd (Prod.snd (Prod.snd (Prod.fst (Prod.snd val))))))).1,
                          (Prod.snd (Prod.snd (Prod.snd (Prod.snd (Prod.snd (Prod.snd (Prod.fst (Prod.snd val)))))))).1,
                          (Prod.snd
                              (Prod.snd
                                (Prod.snd (Prod.snd (Prod.snd (Prod.snd (Prod.snd (Prod.fst (Prod.snd val))))))))).1,
                          ()),
                        (Prod.snd
                            (Prod.snd
                              (Prod.snd
                                (Prod.snd
                                  (Prod.snd (Prod.snd (Prod.snd (Prod.snd (Prod.snd (Prod.snd (Prod.snd val))))))))))).1,
                        (Prod.snd
                            (Prod.snd
                              (Prod.snd
                                (Prod.snd
                                  (Prod.snd
                                    (Prod.snd (Prod.snd (Prod.snd (Prod.snd (Prod.snd (Prod.snd (Prod.snd val)))))))))))).1,
                        (((), ()), (), (), ()), ((), ()),
                        (Prod.snd
                            (Prod.snd
                              (Prod.snd
                                (Prod.snd
                                  (Prod.snd
                                    (Prod.snd
                                      (Prod.snd
                                        (Prod.snd (Prod.snd (Prod.snd (Prod.snd (Prod.snd (Prod.snd val))))))))))))).1,
                        (Prod.snd
                            (Prod.snd
                              (Prod.snd
                                (Prod.snd
                                  (Prod.snd
                                    (Prod.snd
                                      (Prod.snd
                                        (Prod.snd
                                          (Prod.snd (Prod.snd (Prod.snd (Prod.snd (Prod.snd (Prod.snd val)))))))))))))).1,
                        (((), ()), (), (), ()),
                        (Prod.snd
                            (Prod.snd
                              (Prod.snd
                                (Prod.snd
                                  (Prod.snd
                                    (Prod.snd
                                      (Prod.snd
                                        (Prod.snd
                                          (Prod.snd
                                            (Prod.snd
                                              (Prod.snd (Prod.snd (Prod.snd (Prod.snd (Prod.snd val))))))))))))))).1,
                        (Prod.snd
                            (Prod.snd
                              (Prod.snd
                                (Prod.snd
                                  (Prod.snd
                                    (Prod.snd
                                      (Prod.snd
                                        (Prod.snd
                                          (Prod.snd
                                            (Prod.snd
                                              (Prod.snd
                                                (Prod.snd (Prod.snd (Prod.snd (Prod.snd (Prod.snd val)))))))))))))))).1,
                        ()))
                    fun val_2 =>
                    if (Prod.snd (Prod.fst val_2)).1 = true then
                      if decide ((Prod.snd (Prod.snd (Prod.fst (Prod.fst val_2)))).1 = (8 : Int)) = true then
                        Option.bind
                          (F14 ((), ())
                            (((Prod.fst (Prod.snd val)).1, (), (), (), (),
                                (Prod.snd (Prod.snd (Prod.snd (Prod.snd (Prod.snd (Prod.fst (Prod.snd val))))))).1,
                                (Prod.snd
                                    (Prod.snd (Prod.snd (Prod.snd (Prod.snd (Prod.snd (Prod.fst (Prod.snd val)))))))).1,
                                (Prod.snd
                                    (Prod.snd
                                      (Prod.snd (Prod.snd (Prod.snd (Prod.snd (Prod.snd (Prod.fst (Prod.snd val))))))))).1,
                                ()),
                              (Prod.snd
                                  (Prod.snd
                                    (Prod.snd
                                      (Prod.snd
                                        (Prod.snd
                                          (Prod.snd (Prod.snd (Prod.snd (Prod.snd (Prod.snd (Prod.snd val))))))))))).1,
                              (Prod.snd
                                  (Prod.snd
                                    (Prod.snd
                                      (Prod.snd
                                        (Prod.snd
                                          (Prod.snd
                                            (Prod.snd (Prod.snd (Prod.snd (Prod.snd (Prod.snd (Prod.snd val)))))))))))).1,
                              (((), ()), (), (), ()), ((), ()),
                              (Prod.snd
                                  (Prod.snd
                                    (Prod.snd
                                      (Prod.snd
                                        (Prod.snd
                                          (Prod.snd
                                            (Prod.snd
                                              (Prod.snd
                                                (Prod.snd (Prod.snd (Prod.snd (Prod.snd (Prod.snd val))))))))))))).1,
                              (Prod.snd
                                  (Prod.snd
                                    (Prod.snd
                                      (Prod.snd
                                        (Prod.snd
                                          (Prod.snd
                                            (Prod.snd
                                              (Prod.snd
                                                (Prod.snd
                                                  (Prod.snd (Prod.snd (Prod.snd (Prod.snd (Prod.snd val)))))))))))))).1,
                              (((), ()), (), (), ()),
                              (Prod.snd
                                  (Prod.snd
                                    (Prod.snd
                                      (Prod.snd
                                        (Prod.snd
                                          (Prod.snd
                                            (Prod.snd
                                              (Prod.snd
                                                (Prod.snd
                                                  (Prod.snd
                                                    (Prod.snd (Prod.snd (Prod.snd (Prod.snd (Prod.snd val))))))))))))))).1,
                              (Prod.snd
                                  (Prod.snd
                                    (Prod.snd
                                      (Prod.snd
                                        (Prod.snd
                                          (Prod.snd
                                            (Prod.snd
                                              (Prod.snd
                                                (Prod.snd
                                                  (Prod.snd
                                                    (Prod.snd
                                                      (Prod.snd
                                                        (Prod.snd (Prod.snd (Prod.snd (Prod.snd val)))))))))))))))).1,
                              ()))
                          fun val => some (decide (val.1 = (2 : Int)), ())
                      else some (false, ())
                    else some (false, ()))
        val
noncomputable def T11 (K : Nat) : List (Entry Try.prog) := [E9, E10, E12 K, E25, E14]
noncomputable def cuts11 (K : Nat) : List (Cut (AT alts11)) := []
theorem e11 (k : Nat) : ∀ x y, F11 k x y = codeJ Try.prog (tableJ (T11 k)) (Lof 0 k (cuts11 k)) body11 (st0 pin11 os11 x y) (endJ Try.prog 0 [.tmp 0] alts11) := by
  rintro ⟨⟩ ⟨⟩; kernel_rfl
theorem k11 (k : Nat) : FnOK Try.prog 11 pin11 os11 alts11 (F11 k) :=
  fn_ok (fn := Try.f11) (body := body11) (cuts := cuts11 k) (k := k) (C := tableJ (T11 k)) (C' := tableJ (T11 k)) (table_ok _) (table_nat _) (table_ok _) mixed (by kernel_rfl) (by kernel_rfl) (by decide) (by kernel_rfl) (fun x => Nat.le_of_ble_eq_true (by kernel_rfl))
    (fun c h => by cases h) (fun c h => by cases h) (e11 k)
noncomputable def E11 (k : Nat) : Entry Try.prog := ⟨11, pin11, os11, alts11, F11 k, k11 k, rfl⟩
/-! 26n good -/
abbrev pin26n : VPL := (.cons .nilp .nil)
abbrev os26n : List OP := []
abbrev alts26n : List Alt := [(.bool, [])]
noncomputable def body26n : Code := match Try.f26.body with
  | some c => c
  | none => .skip
def F26n : pin26n.T → OPL.T os26n → Option (AT alts26n)
  | ((), ()), () =>
    some (false, ())
noncomputable def T26n : List (Entry Try.prog) := []
noncomputable def cuts26n : List (Cut (AT alts26n)) := []
theorem e26n : ∀ x y, F26n x y = codeJ Try.prog (tableJ (T26n)) (Lof 0 0 (cuts26n)) body26n (st0 pin26n os26n x y) (endJ Try.prog 0 [.tmp 2] alts26n) := by
  rintro ⟨⟨⟩, ⟨⟩⟩ ⟨⟩; kernel_rfl
theorem k26n : FnOK Try.prog 26 pin26n os26n alts26n (F26n) :=
  fn_ok (fn := Try.f26) (body := body26n) (cuts := cuts26n) (k := 0) (C := tableJ (T26n)) (C' := tableJ (T26n)) (table_ok _) (table_nat _) (table_ok _) mixed (by kernel_rfl) (by kernel_rfl) (by decide) (by kernel_rfl) (fun x => Nat.le_of_ble_eq_true (by kernel_rfl))
    (fun c h => by cases h) (fun c h => by cases h) (e26n)
noncomputable def E26n : Entry Try.prog := ⟨26, pin26n, os26n, alts26n, F26n, k26n, rfl⟩
/-! 26z good -/
abbrev pin26z : VPL := (.cons (.ptr 0 0) .nil)
abbrev os26z : List OP := [.box (.cons (.int .i64) (.cons .nils (.cons .nils (.cons .nilp (.cons .nilp (.cons (.int .u64) (.cons (.int .i64) (.cons .bool .nil)))))))) false]
abbrev alts26z : List Alt := [(.bool, [.box (.cons (.int .i64) (.cons .nils (.cons .nils (.cons .nilp (.cons .nilp (.cons (.int .u64) (.cons (.int .i64) (.cons .bool .nil)))))))) false])]
noncomputable def body26z : Code := match Try.f26.body with
  | some c => c
  | none => .skip
def F26z : pin26z.T → OPL.T os26z → Option (AT alts26z)
  | ((), ()), ((a1, ((), ((), ((), ((), (a2, (a3, (a4, ())))))))), ()) =>
    some (false, (a1, (), (), (), (), a2, a3, a4, ()), ())
noncomputable def T26z : List (Entry Try.prog) := []
noncomputable def cuts26z : List (Cut (AT alts26z)) := []
theorem e26z : ∀ x y, F26z x y = codeJ Try.prog (tableJ (T26z)) (Lof 1 0 (cuts26z)) body26z (st0 pin26z os26z x y) (endJ Try.prog 1 [.tmp 2] alts26z) := by
  rintro ⟨⟨⟩, ⟨⟩⟩ ⟨⟨a1, ⟨⟨⟩, ⟨⟨⟩, ⟨⟨⟩, ⟨⟨⟩, ⟨a2, ⟨a3, ⟨a4, ⟨⟩⟩⟩⟩⟩⟩⟩⟩⟩, ⟨⟩⟩; kernel_rfl
theorem k26z : FnOK Try.prog 26 pin26z os26z alts26z (F26z) :=
  fn_ok (fn := Try.f26) (body := body26z) (cuts := cuts26z) (k := 0) (C := tableJ (T26z)) (C' := tableJ (T26z)) (table_ok _) (table_nat _) (table_ok _) mixed (by kernel_rfl) (by kernel_rfl) (by decide) (by kernel_rfl) (fun x => Nat.le_of_ble_eq_true (by kernel_rfl))
    (fun c h => by cases h) (fun c h => by cases h) (e26z)
noncomputable def E26z : Entry Try.prog := ⟨26, pin26z, os26z, alts26z, F26z, k26z, rfl⟩
/-! 14n Len -/
abbrev pin14n : VPL := (.cons .nilp .nil)
abbrev os14n : List OP := []
abbrev alts14n : List Alt := [(.int .i64, [])]
noncomputable def body14n : Code := match Try.f14.body with
  | some c => c
  | none => .skip
def F14n : pin14n.T → OPL.T os14n → Option (AT alts14n)
  | ((), ()), () =>
    Option.bind (F26n ((), ()) ()) fun val => if (!val.1) = true then some ((0 : Int), ()) else none
noncomputable def T14n : List (Entry Try.prog) := [E26n]
noncomputable def cuts14n : List (Cut (AT alts14n)) := []
theorem e14n : ∀ x y, F14n x y = codeJ Try.prog (tableJ (T14n)) (Lof 0 0 (cuts14n)) body14n (st0 pin14n os14n x y) (endJ Try.prog 0 [.tmp 2] alts14n) := by
  rintro ⟨⟨⟩, ⟨⟩⟩ ⟨⟩; kernel_rfl
theorem k14n : FnOK Try.prog 14 pin14n os14n alts14n (F14n) :=
  fn_ok (fn := Try.f14) (body := body14n) (cuts := cuts14n) (k := 0) (C := tableJ (T14n)) (C' := tableJ (T14n)) (table_ok _) (table_nat _) (table_ok _) mixed (by kernel_rfl) (by kernel_rfl) (by decide) (by kernel_rfl) (fun x => Nat.le_of_ble_eq_true (by kernel_rfl))
    (fun c h => by cases h) (fun c h => by cases h) (e14n)
noncomputable def E14n : Entry Try.prog := ⟨14, pin14n, os14n, alts14n, F14n, k14n, rfl⟩
/-! 14z Len -/
abbrev pin14z : VPL := (.cons (.ptr 0 0) .nil)
abbrev os14z : List OP := [.box (.cons (.int .i64) (.cons .nils (.cons .nils (.cons .nilp (.cons .nilp (.cons (.int .u64) (.cons (.int .i64) (.cons .bool .nil)))))))) false]
abbrev alts14z : List Alt := [(.int .i64, [.box (.cons (.int .i64) (.cons .nils (.cons .nils (.cons .nilp (.cons .nilp (.cons (.int .u64) (.cons (.int .i64) (.cons .bool .nil)))))))) false])]
noncomputable def body14z : Code := match Try.f14.body with
  | some c => c
  | none => .skip
def F14z : pin14z.T → OPL.T os14z → Option (AT alts14z)
  | ((), ()), ((a1, ((), ((), ((), ((), (a2, (a3, (a4, ())))))))), ()) =>
    Option.bind (F26z ((), ()) ((a1, (), (), (), (), a2, a3, a4, ()), ())) fun val =>
      if (!val.1) = true then some ((0 : Int), (a1, (), (), (), (), a2, a3, a4, ()), ()) else none
noncomputable def T14z : List (Entry Try.prog) := [E26z]
noncomputable def cuts14z : List (Cut (AT alts14z)) := []
theorem e14z : ∀ x y, F14z x y = codeJ Try.prog (tableJ (T14z)) (Lof 1 0 (cuts14z)) body14z (st0 pin14z os14z x y) (endJ Try.prog 1 [.tmp 2] alts14z) := by
  rintro ⟨⟨⟩, ⟨⟩⟩ ⟨⟨a1, ⟨⟨⟩, ⟨⟨⟩, ⟨⟨⟩, ⟨⟨⟩, ⟨a2, ⟨a3, ⟨a4, ⟨⟩⟩⟩⟩⟩⟩⟩⟩⟩, ⟨⟩⟩; kernel_rfl
theorem k14z : FnOK Try.prog 14 pin14z os14z alts14z (F14z) :=
  fn_ok (fn := Try.f14) (body := body14z) (cuts := cuts14z) (k := 0) (C := tableJ (T14z)) (C' := tableJ (T14z)) (table_ok _) (table_nat _) (table_ok _) mixed (by kernel_rfl) (by kernel_rfl) (by decide) (by kernel_rfl) (fun x => Nat.le_of_ble_eq_true (by kernel_rfl))
    (fun c h => by cases h) (fun c h => by cases h) (e14z)
noncomputable def E14z : Entry Try.prog := ⟨14, pin14z, os14z, alts14z, F14z, k14z, rfl⟩
/-! 12n Put -/
abbrev pin12n : VPL := (.cons .nilp (.cons (.agg (.cons (.int .i64) (.cons (.int .i64) (.cons (.int .i64) .nil)))) .nil))
abbrev os12n : List OP := []
abbrev alts12n : List Alt := [(.tup (.cons (.agg (.cons (.int .i64) (.cons (.int .i64) (.cons (.int .i64) .nil)))) (.cons .bool (.cons (.int .i64) .nil))), [])]
noncomputable def body12n : Code := match Try.f12.body with
  | some c => c
  | none => .skip
def F12n : pin12n.T → OPL.T os12n → Option (AT alts12n)
  | ((), ((a1, (a2, (a3, ()))), ())), () =>
    Option.bind (F26n ((), ()) ()) fun val =>
      if (!val.1) = true then some ((((0 : Int), (0 : Int), (0 : Int), ()), false, (1 : Int), ()), ()) else none
noncomputable def T12n : List (Entry Try.prog) := [E26n, E14n]
noncomputable def cuts12n : List (Cut (AT alts12n)) := []
theorem e12n : ∀ x y, F12n x y = codeJ Try.prog (tableJ (T12n)) (Lof 0 0 (cuts12n)) body12n (st0 pin12n os12n x y) (endJ Try.prog 0 [.cell 4 31, .tmp 5, .tmp 6] alts12n) := by
  rintro ⟨⟨⟩, ⟨⟨a1, ⟨a2, ⟨a3, ⟨⟩⟩⟩⟩, ⟨⟩⟩⟩ ⟨⟩; kernel_rfl
theorem k12n : FnOK Try.prog 12 pin12n os12n alts12n (F12n) :=
  fn_ok (fn := Try.f12) (body := body12n) (cuts := cuts12n) (k := 0) (C := tableJ (T12n)) (C' := tableJ (T12n)) (table_ok _) (table_nat _) (table_ok _) mixed (by kernel_rfl) (by kernel_rfl) (by decide) (by kernel_rfl) (fun x => Nat.le_of_ble_eq_true (by kernel_rfl))
    (fun c h => by cases h) (fun c h => by cases h) (e12n)
noncomputable def E12n : Entry Try.prog := ⟨12, pin12n, os12n, alts12n, F12n, k12n, rfl⟩
/-! 12z Put -/
abbrev pin12z : VPL := (.cons (.ptr 0 0) (.cons (.agg (.cons (.int .i64) (.cons (.int .i64) (.cons (.int .i64) .nil)))) .nil))
abbrev os12z : List OP := [.box (.cons (.int .i64) (.cons .nils (.cons .nils (.cons .nilp (.cons .nilp (.cons (.int .u64) (.cons (.int .i64) (.cons .bool .nil)))))))) false]
abbrev alts12z : List Alt := [(.tup (.cons (.agg (.cons (.int .i64) (.cons (.int .i64) (.cons (.int .i64) .nil)))) (.cons .bool (.cons (.int .i64) .nil))), [.box (.cons (.int .i64) (.cons .nils (.cons .nils (.cons .nilp (.cons .nilp (.cons (.int .u64) (.cons (.int .i64) (.cons .bool .nil)))))))) false])]
noncomputable def body12z : Code := match Try.f12.body with
  | some c => c
  | none => .skip
def F12z : pin12z.T → OPL.T os12z → Option (AT alts12z)
  | ((), ((a1, (a2, (a3, ()))), ())), ((a4, ((), ((), ((), ((), (a5, (a6, (a7, ())))))))), ()) =>
    Option.bind (F26z ((), ()) ((a4, (), (), (), (), a5, a6, a7, ()), ())) fun val =>
      if (!val.1) = true then
        some ((((0 : Int), (0 : Int), (0 : Int), ()), false, (1 : Int), ()), (a4, (), (), (), (), a5, a6, a7, ()), ())
      else none
noncomputable def T12z : List (Entry Try.prog) := [E26z, E14z]
noncomputable def cuts12z : List (Cut (AT alts12z)) := []
theorem e12z : ∀ x y, F12z x y = codeJ Try.prog (tableJ (T12z)) (Lof 1 0 (cuts12z)) body12z (st0 pin12z os12z x y) (endJ Try.prog 1 [.cell 4 31, .tmp 5, .tmp 6] alts12z) := by
  rintro ⟨⟨⟩, ⟨⟨a1, ⟨a2, ⟨a3, ⟨⟩⟩⟩⟩, ⟨⟩⟩⟩ ⟨⟨a4, ⟨⟨⟩, ⟨⟨⟩, ⟨⟨⟩, ⟨⟨⟩, ⟨a5, ⟨a6, ⟨a7, ⟨⟩⟩⟩⟩⟩⟩⟩⟩⟩, ⟨⟩⟩; kernel_rfl
theorem k12z : FnOK Try.prog 12 pin12z os12z alts12z (F12z) :=
  fn_ok (fn := Try.f12) (body := body12z) (cuts := cuts12z) (k := 0) (C := tableJ (T12z)) (C' := tableJ (T12z)) (table_ok _) (table_nat _) (table_ok _) mixed (by kernel_rfl) (by kernel_rfl) (by decide) (by kernel_rfl) (fun x => Nat.le_of_ble_eq_true (by kernel_rfl))
    (fun c h => by cases h) (fun c h => by cases h) (e12z)
noncomputable def E12z : Entry Try.prog := ⟨12, pin12z, os12z, alts12z, F12z, k12z, rfl⟩
/-! 13n Pop -/
abbrev pin13n : VPL := (.cons .nilp .nil)
abbrev os13n : List OP := []
abbrev alts13n : List Alt := [(.tup (.cons (.agg (.cons (.int .i64) (.cons (.int .i64) (.cons (.int .i64) .nil)))) (.cons .bool .nil)), [])]
noncomputable def body13n : Code := match Try.f13.body with
  | some c => c
  | none => .skip
def F13n : pin13n.T → OPL.T os13n → Option (AT alts13n)
  | ((), ()), () =>
    Option.bind (F14n ((), ()) ()) fun val =>
      if decide (val.1 = (0 : Int)) = true then some ((((0 : Int), (0 : Int), (0 : Int), ()), false, ()), ()) else none
noncomputable def T13n : List (Entry Try.prog) := [E14n]
noncomputable def cuts13n : List (Cut (AT alts13n)) := []
theorem e13n : ∀ x y, F13n x y = codeJ Try.prog (tableJ (T13n)) (Lof 0 0 (cuts13n)) body13n (st0 pin13n os13n x y) (endJ Try.prog 0 [.cell 2 31, .tmp 3] alts13n) := by
  rintro ⟨⟨⟩, ⟨⟩⟩ ⟨⟩; kernel_rfl
theorem k13n : FnOK Try.prog 13 pin13n os13n alts13n (F13n) :=
  fn_ok (fn := Try.f13) (body := body13n) (cuts := cuts13n) (k := 0) (C := tableJ (T13n)) (C' := tableJ (T13n)) (table_ok _) (table_nat _) (table_ok _) mixed (by kernel_rfl) (by kernel_rfl) (by decide) (by kernel_rfl) (fun x => Nat.le_of_ble_eq_true (by kernel_rfl))
    (fun c h => by cases h) (fun c h => by cases h) (e13n)
noncomputable def E13n : Entry Try.prog := ⟨13, pin13n, os13n, alts13n, F13n, k13n, rfl⟩
/-! 13z Pop -/
abbrev pin13z : VPL := (.cons (.ptr 0 0) .nil)
abbrev os13z : List OP := [.box (.cons (.int .i64) (.cons .nils (.cons .nils (.cons .nilp (.cons .nilp (.cons (.int .u64) (.cons (.int .i64) (.cons .bool .nil)))))))) false]
abbrev alts13z : List Alt := [(.tup (.cons (.agg (.cons (.int .i64) (.cons (.int .i64) (.cons (.int .i64) .nil)))) (.cons .bool .nil)), [.box (.cons (.int .i64) (.cons .nils (.cons .nils (.cons .nilp (.cons .nilp (.cons (.int .u64) (.cons (.int .i64) (.cons .bool .nil)))))))) false])]
noncomputable def body13z : Code := match Try.f13.body with
  | some c => c
  | none => .skip
def F13z : pin13z.T → OPL.T os13z → Option (AT alts13z)
  | ((), ()), ((a1, ((), ((), ((), ((), (a2, (a3, (a4, ())))))))), ()) =>
    Option.bind (F14z ((), ()) ((a1, (), (), (), (), a2, a3, a4, ()), ())) fun val =>
      if decide (val.1 = (0 : Int)) = true then
        some ((((0 : Int), (0 : Int), (0 : Int), ()), false, ()), (a1, (), (), (), (), a2, a3, a4, ()), ())
      else none
noncomputable def T13z : List (Entry Try.prog) := [E14z]
noncomputable def cuts13z : List (Cut (AT alts13z)) := []
theorem e13z : ∀ x y, F13z x y = codeJ Try.prog (tableJ (T13z)) (Lof 1 0 (cuts13z)) body13z (st0 pin13z os13z x y) (endJ Try.prog 1 [.cell 2 31, .tmp 3] alts13z) := by
  rintro ⟨⟨⟩, ⟨⟩⟩ ⟨⟨a1, ⟨⟨⟩, ⟨⟨⟩, ⟨⟨⟩, ⟨⟨⟩, ⟨a2, ⟨a3, ⟨a4, ⟨⟩⟩⟩⟩⟩⟩⟩⟩⟩, ⟨⟩⟩; kernel_rfl
theorem k13z : FnOK Try.prog 13 pin13z os13z alts13z (F13z) :=
  fn_ok (fn := Try.f13) (body := body13z) (cuts := cuts13z) (k := 0) (C := tableJ (T13z)) (C' := tableJ (T13z)) (table_ok _) (table_nat _) (table_ok _) mixed (by kernel_rfl) (by kernel_rfl) (by decide) (by kernel_rfl) (fun x => Nat.le_of_ble_eq_true (by kernel_rfl))
    (fun c h => by cases h) (fun c h => by cases h) (e13z)
noncomputable def E13z : Entry Try.prog := ⟨13, pin13z, os13z, alts13z, F13z, k13z, rfl⟩
/-! 25n Top -/
abbrev pin25n : VPL := (.cons .nilp .nil)
abbrev os25n : List OP := []
abbrev alts25n : List Alt := [(.tup (.cons (.agg (.cons (.int .i64) (.cons (.int .i64) (.cons (.int .i64) .nil)))) (.cons .bool .nil)), [])]
noncomputable def body25n : Code := match Try.f25.body with
  | some c => c
  | none => .skip
def F25n : pin25n.T → OPL.T os25n → Option (AT alts25n)
  | ((), ()), () =>
    Option.bind (F14n ((), ()) ()) fun val =>
      if decide (val.1 = (0 : Int)) = true then some ((((0 : Int), (0 : Int), (0 : Int), ()), false, ()), ()) else none
noncomputable def T25n : List (Entry Try.prog) := [E14n]
noncomputable def cuts25n : List (Cut (AT alts25n)) := []
theorem e25n : ∀ x y, F25n x y = codeJ Try.prog (tableJ (T25n)) (Lof 0 0 (cuts25n)) body25n (st0 pin25n os25n x y) (endJ Try.prog 0 [.cell 2 31, .tmp 3] alts25n) := by
  rintro ⟨⟨⟩, ⟨⟩⟩ ⟨⟩; kernel_rfl
theorem k25n : FnOK Try.prog 25 pin25n os25n alts25n (F25n) :=
  fn_ok (fn := Try.f25) (body := body25n) (cuts := cuts25n) (k := 0) (C := tableJ (T25n)) (C' := tableJ (T25n)) (table_ok _) (table_nat _) (table_ok _) mixed (by kernel_rfl) (by kernel_rfl) (by decide) (by kernel_rfl) (fun x => Nat.le_of_ble_eq_true (by kernel_rfl))
    (fun c h => by cases h) (fun c h => by cases h) (e25n)
noncomputable def E25n : Entry Try.prog := ⟨25, pin25n, os25n, alts25n, F25n, k25n, rfl⟩
/-! 25z Top -/
abbrev pin25z : VPL := (.cons (.ptr 0 0) .nil)
abbrev os25z : List OP := [.box (.cons (.int .i64) (.cons .nils (.cons .nils (.cons .nilp (.cons .nilp (.cons (.int .u64) (.cons (.int .i64) (.cons .bool .nil)))))))) false]
abbrev alts25z : List Alt := [(.tup (.cons (.agg (.cons (.int .i64) (.cons (.int .i64) (.cons (.int .i64) .nil)))) (.cons .bool .nil)), [.box (.cons (.int .i64) (.cons .nils (.cons .nils (.cons .nilp (.cons .nilp (.cons (.int .u64) (.cons (.int .i64) (.cons .bool .nil)))))))) false])]
noncomputable def body25z : Code := match Try.f25.body with
  | some c => c
  | none => .skip
def F25z : pin25z.T → OPL.T os25z → Option (AT alts25z)
  | ((), ()), ((a1, ((), ((), ((), ((), (a2, (a3, (a4, ())))))))), ()) =>
    Option.bind (F14z ((), ()) ((a1, (), (), (), (), a2, a3, a4, ()), ())) fun val =>
      if decide (val.1 = (0 : Int)) = true then
        some ((((0 : Int), (0 : Int), (0 : Int), ()), false, ()), (a1, (), (), (), (), a2, a3, a4, ()), ())
      else none
noncomputable def T25z : List (Entry Try.prog) := [E14z]
noncomputable def cuts25z : List (Cut (AT alts25z)) := []
theorem e25z : ∀ x y, F25z x y = codeJ Try.prog (tableJ (T25z)) (Lof 1 0 (cuts25z)) body25z (st0 pin25z os25z x y) (endJ Try.prog 1 [.cell 2 31, .tmp 3] alts25z) := by
  rintro ⟨⟨⟩, ⟨⟩⟩ ⟨⟨a1, ⟨⟨⟩, ⟨⟨⟩, ⟨⟨⟩, ⟨⟨⟩, ⟨a2, ⟨a3, ⟨a4, ⟨⟩⟩⟩⟩⟩⟩⟩⟩⟩, ⟨⟩⟩; kernel_rfl
theorem k25z : FnOK Try.prog 25 pin25z os25z alts25z (F25z) :=
  fn_ok (fn := Try.f25) (body := body25z) (cuts := cuts25z) (k := 0) (C := tableJ (T25z)) (C' := tableJ (T25z)) (table_ok _) (table_nat _) (table_ok _) mixed (by kernel_rfl) (by kernel_rfl) (by decide) (by kernel_rfl) (fun x => Nat.le_of_ble_eq_true (by kernel_rfl))
    (fun c h => by cases h) (fun c h => by cases h) (e25z)
noncomputable def E25z : Entry Try.prog := ⟨25, pin25z, os25z, alts25z, F25z, k25z, rfl⟩
/-! 15n Worst -/
abbrev pin15n : VPL := (.cons .nilp .nil)
abbrev os15n : List OP := []
abbrev alts15n : List Alt := [(.tup (.cons (.agg (.cons (.int .i64) (.cons (.int .i64) (.cons (.int .i64) .nil)))) (.cons .bool .nil)), [])]
noncomputable def body15n : Code := match Try.f15.body with
  | some c => c
  | none => .skip
def F15n : pin15n.T → OPL.T os15n → Option (AT alts15n)
  | ((), ()), () =>
    Option.bind (F14n ((), ()) ()) fun val =>
      if decide (val.1 = (0 : Int)) = true then some ((((0 : Int), (0 : Int), (0 : Int), ()), false, ()), ()) else none
noncomputable def T15n : List (Entry Try.prog) := [E14n]
noncomputable def cuts15n : List (Cut (AT alts15n)) := []
theorem e15n : ∀ x y, F15n x y = codeJ Try.prog (tableJ (T15n)) (Lof 0 0 (cuts15n)) body15n (st0 pin15n os15n x y) (endJ Try.prog 0 [.cell 2 31, .tmp 3] alts15n) := by
  rintro ⟨⟨⟩, ⟨⟩⟩ ⟨⟩; kernel_rfl
theorem k15n : FnOK Try.prog 15 pin15n os15n alts15n (F15n) :=
  fn_ok (fn := Try.f15) (body := body15n) (cuts := cuts15n) (k := 0) (C := tableJ (T15n)) (C' := tableJ (T15n)) (table_ok _) (table_nat _) (table_ok _) mixed (by kernel_rfl) (by kernel_rfl) (by decide) (by kernel_rfl) (fun x => Nat.le_of_ble_eq_true (by kernel_rfl))
    (fun c h => by cases h) (fun c h => by cases h) (e15n)
noncomputable def E15n : Entry Try.prog := ⟨15, pin15n, os15n, alts15n, F15n, k15n, rfl⟩
/-! 15z Worst -/
abbrev pin15z : VPL := (.cons (.ptr 0 0) .nil)
abbrev os15z : List OP := [.box (.cons (.int .i64) (.cons .nils (.cons .nils (.cons .nilp (.cons .nilp (.cons (.int .u64) (.cons (.int .i64) (.cons .bool .nil)))))))) false]
abbrev alts15z : List Alt := [(.tup (.cons (.agg (.cons (.int .i64) (.cons (.int .i64) (.cons (.int .i64) .nil)))) (.cons .bool .nil)), [.box (.cons (.int .i64) (.cons .nils (.cons .nils (.cons .nilp (.cons .nilp (.cons (.int .u64) (.cons (.int .i64) (.cons .bool .nil)))))))) false])]
noncomputable def body15z : Code := match Try.f15.body with
  | some c => c
  | none => .skip
def F15z : pin15z.T → OPL.T os15z → Option (AT alts15z)
  | ((), ()), ((a1, ((), ((), ((), ((), (a2, (a3, (a4, ())))))))), ()) =>
    Option.bind (F14z ((), ()) ((a1, (), (), (), (), a2, a3, a4, ()), ())) fun val =>
      if decide (val.1 = (0 : Int)) = true then
        some ((((0 : Int), (0 : Int), (0 : Int), ()), false, ()), (a1, (), (), (), (), a2, a3, a4, ()), ())
      else none
noncomputable def T15z : List (Entry Try.prog) := [E14z]
noncomputable def cuts15z : List (Cut (AT alts15z)) := []
theorem e15z : ∀ x y, F15z x y = codeJ Try.prog (tableJ (T15z)) (Lof 1 0 (cuts15z)) body15z (st0 pin15z os15z x y) (endJ Try.prog 1 [.cell 2 31, .tmp 3] alts15z) := by
  rintro ⟨⟨⟩, ⟨⟩⟩ ⟨⟨a1, ⟨⟨⟩, ⟨⟨⟩, ⟨⟨⟩, ⟨⟨⟩, ⟨a2, ⟨a3, ⟨a4, ⟨⟩⟩⟩⟩⟩⟩⟩⟩⟩, ⟨⟩⟩; kernel_rfl
theorem k15z : FnOK Try.prog 15 pin15z os15z alts15z (F15z) :=
  fn_ok (fn := Try.f15) (body := body15z) (cuts := cuts15z) (k := 0) (C := tableJ (T15z)) (C' := tableJ (T15z)) (table_ok _) (table_nat _) (table_ok _) mixed (by kernel_rfl) (by kernel_rfl) (by decide) (by kernel_rfl) (fun x => Nat.le_of_ble_eq_true (by kernel_rfl))
    (fun c h => by cases h) (fun c h => by cases h) (e15z)
noncomputable def E15z : Entry Try.prog := ⟨15, pin15z, os15z, alts15z, F15z, k15z, rfl⟩
/-! 17n Mark -/
abbrev pin17n : VPL := (.cons .nilp .nil)
abbrev os17n : List OP := []
abbrev alts17n : List Alt := [(.tup (.cons (.int .i64) (.cons .bool .nil)), [])]
noncomputable def body17n : Code := match Try.f17.body with
  | some c => c
  | none => .skip
def F17n : pin17n.T → OPL.T os17n → Option (AT alts17n)
  | ((), ()), () =>
    Option.bind (F26n ((), ()) ()) fun val => if (!val.1) = true then some (((0 : Int), false, ()), ()) else none
noncomputable def T17n : List (Entry Try.prog) := [E26n]
noncomputable def cuts17n : List (Cut (AT alts17n)) := []
theorem e17n : ∀ x y, F17n x y = codeJ Try.prog (tableJ (T17n)) (Lof 0 0 (cuts17n)) body17n (st0 pin17n os17n x y) (endJ Try.prog 0 [.tmp 2, .tmp 3] alts17n) := by
  rintro ⟨⟨⟩, ⟨⟩⟩ ⟨⟩; kernel_rfl
theorem k17n : FnOK Try.prog 17 pin17n os17n alts17n (F17n) :=
  fn_ok (fn := Try.f17) (body := body17n) (cuts := cuts17n) (k := 0) (C := tableJ (T17n)) (C' := tableJ (T17n)) (table_ok _) (table_nat _) (table_ok _) mixed (by kernel_rfl) (by kernel_rfl) (by decide) (by kernel_rfl) (fun x => Nat.le_of_ble_eq_true (by kernel_rfl))
    (fun c h => by cases h) (fun c h => by cases h) (e17n)
noncomputable def E17n : Entry Try.prog := ⟨17, pin17n, os17n, alts17n, F17n, k17n, rfl⟩
/-! 17z Mark -/
abbrev pin17z : VPL := (.cons (.ptr 0 0) .nil)
abbrev os17z : List OP := [.box (.cons (.int .i64) (.cons .nils (.cons .nils (.cons .nilp (.cons .nilp (.cons (.int .u64) (.cons (.int .i64) (.cons .bool .nil)))))))) false]
abbrev alts17z : List Alt := [(.tup (.cons (.int .i64) (.cons .bool .nil)), [.box (.cons (.int .i64) (.cons .nils (.cons .nils (.cons .nilp (.cons .nilp (.cons (.int .u64) (.cons (.int .i64) (.cons .bool .nil)))))))) false])]
noncomputable def body17z : Code := match Try.f17.body with
  | some c => c
  | none => .skip
def F17z : pin17z.T → OPL.T os17z → Option (AT alts17z)
  | ((), ()), ((a1, ((), ((), ((), ((), (a2, (a3, (a4, ())))))))), ()) =>
    Option.bind (F26z ((), ()) ((a1, (), (), (), (), a2, a3, a4, ()), ())) fun val =>
      if (!val.1) = true then some (((0 : Int), false, ()), (a1, (), (), (), (), a2, a3, a4, ()), ())
      else some ((a3, a4, ()), (a1, (), (), (), (), a2, a3, a4, ()), ())
noncomputable def T17z : List (Entry Try.prog) := [E26z]
noncomputable def cuts17z : List (Cut (AT alts17z)) := []
theorem e17z : ∀ x y, F17z x y = codeJ Try.prog (tableJ (T17z)) (Lof 1 0 (cuts17z)) body17z (st0 pin17z os17z x y) (endJ Try.prog 1 [.tmp 2, .tmp 3] alts17z) := by
  rintro ⟨⟨⟩, ⟨⟩⟩ ⟨⟨a1, ⟨⟨⟩, ⟨⟨⟩, ⟨⟨⟩, ⟨⟨⟩, ⟨a2, ⟨a3, ⟨a4, ⟨⟩⟩⟩⟩⟩⟩⟩⟩⟩, ⟨⟩⟩; kernel_rfl
theorem k17z : FnOK Try.prog 17 pin17z os17z alts17z (F17z) :=
  fn_ok (fn := Try.f17) (body := body17z) (cuts := cuts17z) (k := 0) (C := tableJ (T17z)) (C' := tableJ (T17z)) (table_ok _) (table_nat _) (table_ok _) mixed (by kernel_rfl) (by kernel_rfl) (by decide) (by kernel_rfl) (fun x => Nat.le_of_ble_eq_true (by kernel_rfl))
    (fun c h => by cases h) (fun c h => by cases h) (e17z)
noncomputable def E17z : Entry Try.prog := ⟨17, pin17z, os17z, alts17z, F17z, k17z, rfl⟩
/-! 18n All -/
abbrev pin18n : VPL := (.cons .nilp .nil)
abbrev os18n : List OP := []
abbrev alts18n : List Alt := [(.fn 29 (.cons (.ptr 0 0) .nil), [.box (.cons .nilp .nil) true])]
noncomputable def body18n : Code := match Try.f18.body with
  | some c => c
  | none => .skip
def F18n : pin18n.T → OPL.T os18n → Option (AT alts18n)
  | ((), ()), () =>
    some (((), ()), ((), ()), ())
noncomputable def T18n : List (Entry Try.prog) := []
noncomputable def cuts18n : List (Cut (AT alts18n)) := []
theorem e18n : ∀ x y, F18n x y = codeJ Try.prog (tableJ (T18n)) (Lof 0 0 (cuts18n)) body18n (st0 pin18n os18n x y) (endJ Try.prog 0 [.tmp 2] alts18n) := by
  rintro ⟨⟨⟩, ⟨⟩⟩ ⟨⟩; kernel_rfl
theorem k18n : FnOK Try.prog 18 pin18n os18n alts18n (F18n) :=
  fn_ok (fn := Try.f18) (body := body18n) (cuts := cuts18n) (k := 0) (C := tableJ (T18n)) (C' := tableJ (T18n)) (table_ok _) (table_nat _) (table_ok _) mixed (by kernel_rfl) (by kernel_rfl) (by decide) (by kernel_rfl) (fun x => Nat.le_of_ble_eq_true (by kernel_rfl))
    (fun c h => by cases h) (fun c h => by cases h) (e18n)
noncomputable def E18n : Entry Try.prog := ⟨18, pin18n, os18n, alts18n, F18n, k18n, rfl⟩
/-! 18z All -/
abbrev pin18z : VPL := (.cons (.ptr 0 0) .nil)
abbrev os18z : List OP := [.box (.cons (.int .i64) (.cons .nils (.cons .nils (.cons .nilp (.cons .nilp (.cons (.int .u64) (.cons (.int .i64) (.cons .bool .nil)))))))) false]
abbrev alts18z : List Alt := [(.fn 29 (.cons (.ptr 1 0) .nil), [.box (.cons (.int .i64) (.cons .nils (.cons .nils (.cons .nilp (.cons .nilp (.cons (.int .u64) (.cons (.int .i64) (.cons .bool .nil)))))))) false, .box (.cons (.ptr 0 0) .nil) true])]
noncomputable def body18z : Code := match Try.f18.body with
  | some c => c
  | none => .skip
def F18z : pin18z.T → OPL.T os18z → Option (AT alts18z)
  | ((), ()), ((a1, ((), ((), ((), ((), (a2, (a3, (a4, ())))))))), ()) =>
    some (((), ()), (a1, (), (), (), (), a2, a3, a4, ()), ((), ()), ())
noncomputable def T18z : List (Entry Try.prog) := []
noncomputable def cuts18z : List (Cut (AT alts18z)) := []
theorem e18z : ∀ x y, F18z x y = codeJ Try.prog (tableJ (T18z)) (Lof 1 0 (cuts18z)) body18z (st0 pin18z os18z x y) (endJ Try.prog 1 [.tmp 2] alts18z) := by
  rintro ⟨⟨⟩, ⟨⟩⟩ ⟨⟨a1, ⟨⟨⟩, ⟨⟨⟩, ⟨⟨⟩, ⟨⟨⟩, ⟨a2, ⟨a3, ⟨a4, ⟨⟩⟩⟩⟩⟩⟩⟩⟩⟩, ⟨⟩⟩; kernel_rfl
theorem k18z : FnOK Try.prog 18 pin18z os18z alts18z (F18z) :=
  fn_ok (fn := Try.f18) (body := body18z) (cuts := cuts18z) (k := 0) (C := tableJ (T18z)) (C' := tableJ (T18z)) (table_ok _) (table_nat _) (table_ok _) mixed (by kernel_rfl) (by kernel_rfl) (by decide) (by kernel_rfl) (fun x => Nat.le_of_ble_eq_true (by kernel_rfl))
    (fun c h => by cases h) (fun c h => by cases h) (e18z)
noncomputable def E18z : Entry Try.prog := ⟨18, pin18z, os18z, alts18z, F18z, k18z, rfl⟩
/-! 19n all -/
abbrev pin19n : VPL := (.cons .nilp (.cons (.int .i64) .nil))
abbrev os19n : List OP := []
abbrev alts19n : List Alt := [(.tup (.cons .nils (.cons .bool .nil)), [])]
noncomputable def body19n : Code := match Try.f19.body with
  | some c => c
  | none => .skip
noncomputable def it19n_7 : Code := match Try.f29.body with
  | some c => c
  | none => .skip
def F19n : pin19n.T → OPL.T os19n → Option (AT alts19n)
  | ((), (a1, ())), () =>
    Option.bind (F18n ((), ()) ()) fun val =>
      Option.bind (F26n ((), ()) ()) fun val => if (!val.1) = true then some (((), true, ()), ()) else none
noncomputable def T19n : List (Entry Try.prog) := [E18n, E26n]
noncomputable def cuts19n : List (CutY (AT alts19n)) := []
theorem e19n : ∀ x y, F19n x y = codeY Try.prog (tableJ (T19n)) 0 (LofY 0 (cuts19n)) (Tof [(7, ⟨29, 9, 48, it19n_7⟩)]) 1 none 0 24 0 body19n (st0 pin19n os19n x y) (endY Try.prog 0 [.tmp 4, .tmp 5] alts19n) := by
  rintro ⟨⟨⟩, ⟨a1, ⟨⟩⟩⟩ ⟨⟩; kernel_rfl
theorem t19n : TOK Try.prog (Tof [(7, ⟨29, 9, 48, it19n_7⟩)]) := tof_cons (fn := Try.f29) ⟨by kernel_rfl, by kernel_rfl, by kernel_rfl, by kernel_rfl, by kernel_rfl, by decide⟩ (tof_nil)
theorem k19n : FnOK Try.prog 19 pin19n os19n alts19n (F19n) :=
  fnY_ok (fn := Try.f19) (body := body19n) (cuts := cuts19n) (k := 0) (C := tableJ (T19n)) (C' := tableJ (T19n)) (table_ok _) (table_nat _) (table_ok _) mixed (by kernel_rfl) (by kernel_rfl) (by decide) (by kernel_rfl) (fun x => Nat.le_of_ble_eq_true (by kernel_rfl)) (d := 1) t19n
    (fun c h => by cases h) (fun c h => by cases h) (e19n)
noncomputable def E19n : Entry Try.prog := ⟨19, pin19n, os19n, alts19n, F19n, k19n, rfl⟩
/-! 19z all -/
abbrev pin19z : VPL := (.cons (.ptr 0 0) (.cons (.int .i64) .nil))
abbrev os19z : List OP := [.box (.cons (.int .i64) (.cons .nils (.cons .nils (.cons .nilp (.cons .nilp (.cons (.int .u64) (.cons (.int .i64) (.cons .bool .nil)))))))) false]
abbrev alts19z : List Alt := [(.tup (.cons .nils (.cons .bool .nil)), [.box (.cons (.int .i64) (.cons .nils (.cons .nils (.cons .nilp (.cons .nilp (.cons (.int .u64) (.cons (.int .i64) (.cons .bool .nil)))))))) false])]
noncomputable def body19z : Code := match Try.f19.body with
  | some c => c
  | none => .skip
noncomputable def it19z_7 : Code := match Try.f29.body with
  | some c => c
  | none => .skip
def F19z : pin19z.T → OPL.T os19z → Option (AT alts19z)
  | ((), (a1, ())), ((a2, ((), ((), ((), ((), (a3, (a4, (a5, ())))))))), ()) =>
    Option.bind (F18z ((), ()) ((a2, (), (), (), (), a3, a4, a5, ()), ())) fun val =>
      Option.bind (F26z ((), ()) ((a2, (), (), (), (), a3, a4, a5, ()), ())) fun val =>
        if (!val.1) = true then some (((), true, ()), (a2, (), (), (), (), a3, a4, a5, ()), ()) else none
noncomputable def T19z : List (Entry Try.prog) := [E18z, E26z]
noncomputable def cuts19z : List (CutY (AT alts19z)) := []
theorem e19z : ∀ x y, F19z x y = codeY Try.prog (tableJ (T19z)) 1 (LofY 0 (cuts19z)) (Tof [(7, ⟨29, 9, 48, it19z_7⟩)]) 1 none 0 24 0 body19z (st0 pin19z os19z x y) (endY Try.prog 1 [.tmp 4, .tmp 5] alts19z) := by
  rintro ⟨⟨⟩, ⟨a1, ⟨⟩⟩⟩ ⟨⟨a2, ⟨⟨⟩, ⟨⟨⟩, ⟨⟨⟩, ⟨⟨⟩, ⟨a3, ⟨a4, ⟨a5, ⟨⟩⟩⟩⟩⟩⟩⟩⟩⟩, ⟨⟩⟩; kernel_rfl
theorem t19z : TOK Try.prog (Tof [(7, ⟨29, 9, 48, it19z_7⟩)]) := tof_cons (fn := Try.f29) ⟨by kernel_rfl, by kernel_rfl, by kernel_rfl, by kernel_rfl, by kernel_rfl, by decide⟩ (tof_nil)
theorem k19z : FnOK Try.prog 19 pin19z os19z alts19z (F19z) :=
  fnY_ok (fn := Try.f19) (body := body19z) (cuts := cuts19z) (k := 0) (C := tableJ (T19z)) (C' := tableJ (T19z)) (table_ok _) (table_nat _) (table_ok _) mixed (by kernel_rfl) (by kernel_rfl) (by decide) (by kernel_rfl) (fun x => Nat.le_of_ble_eq_true (by kernel_rfl)) (d := 1) t19z
    (fun c h => by cases h) (fun c h => by cases h) (e19z)
noncomputable def E19z : Entry Try.prog := ⟨19, pin19z, os19z, alts19z, F19z, k19z, rfl⟩
/-! 38 ref All -/
abbrev pin38 : VPL := (.cons .nilp .nil)
abbrev os38 : List OP := []
abbrev alts38 : List Alt := [(.nils, [])]
noncomputable def body38 : Code := match Try.f38.body with
  | some c => c
  | none => .skip
def F38 : pin38.T → OPL.T os38 → Option (AT alts38)
  | ((), ()), () =>
    some ((), ())
noncomputable def T38 : List (Entry Try.prog) := []
noncomputable def cuts38 : List (Cut (AT alts38)) := []
theorem e38 : ∀ x y, F38 x y = codeJ Try.prog (tableJ (T38)) (Lof 0 0 (cuts38)) body38 (st0 pin38 os38 x y) (endJ Try.prog 0 [.tmp 2] alts38) := by
  rintro ⟨⟨⟩, ⟨⟩⟩ ⟨⟩; kernel_rfl
theorem k38 : FnOK Try.prog 38 pin38 os38 alts38 (F38) :=
  fn_ok (fn := Try.f38) (body := body38) (cuts := cuts38) (k := 0) (C := tableJ (T38)) (C' := tableJ (T38)) (table_ok _) (table_nat _) (table_ok _) mixed (by kernel_rfl) (by kernel_rfl) (by decide) (by kernel_rfl) (fun x => Nat.le_of_ble_eq_true (by kernel_rfl))
    (fun c h => by cases h) (fun c h => by cases h) (e38)
noncomputable def E38 : Entry Try.prog := ⟨38, pin38, os38, alts38, F38, k38, rfl⟩
/-! 39 ref Mark -/
abbrev pin39 : VPL := (.cons .nilp .nil)
abbrev os39 : List OP := []
abbrev alts39 : List Alt := [(.tup (.cons (.int .i64) (.cons .bool .nil)), [])]
noncomputable def body39 : Code := match Try.f39.body with
  | some c => c
  | none => .skip
def F39 : pin39.T → OPL.T os39 → Option (AT alts39)
  | ((), ()), () =>
    some (((0 : Int), false, ()), ())
noncomputable def T39 : List (Entry Try.prog) := []
noncomputable def cuts39 : List (Cut (AT alts39)) := []
theorem e39 : ∀ x y, F39 x y = codeJ Try.prog (tableJ (T39)) (Lof 0 0 (cuts39)) body39 (st0 pin39 os39 x y) (endJ Try.prog 0 [.tmp 2, .tmp 3] alts39) := by
  rintro ⟨⟨⟩, ⟨⟩⟩ ⟨⟩; kernel_rfl
theorem k39 : FnOK Try.prog 39 pin39 os39 alts39 (F39) :=
  fn_ok (fn := Try.f39) (body := body39) (cuts := cuts39) (k := 0) (C := tableJ (T39)) (C' := tableJ (T39)) (table_ok _) (table_nat _) (table_ok _) mixed (by kernel_rfl) (by kernel_rfl) (by decide) (by kernel_rfl) (fun x => Nat.le_of_ble_eq_true (by kernel_rfl))
    (fun c h => by cases h) (fun c h => by cases h) (e39)
noncomputable def E39 : Entry Try.prog := ⟨39, pin39, os39, alts39, F39, k39, rfl⟩
/-! 40 ref Len -/
abbrev pin40 : VPL := (.cons .nilp .nil)
abbrev os40 : List OP := []
abbrev alts40 : List Alt := [(.int .i64, [])]
noncomputable def body40 : Code := match Try.f40.body with
  | some c => c
  | none => .skip
def F40 : pin40.T → OPL.T os40 → Option (AT alts40)
  | ((), ()), () =>
    some ((0 : Int), ())
noncomputable def T40 : List (Entry Try.prog) := []
noncomputable def cuts40 : List (Cut (AT alts40)) := []
theorem e40 : ∀ x y, F40 x y = codeJ Try.prog (tableJ (T40)) (Lof 0 0 (cuts40)) body40 (st0 pin40 os40 x y) (endJ Try.prog 0 [.tmp 2] alts40) := by
  rintro ⟨⟨⟩, ⟨⟩⟩ ⟨⟩; kernel_rfl
theorem k40 : FnOK Try.prog 40 pin40 os40 alts40 (F40) :=
  fn_ok (fn := Try.f40) (body := body40) (cuts := cuts40) (k := 0) (C := tableJ (T40)) (C' := tableJ (T40)) (table_ok _) (table_nat _) (table_ok _) mixed (by kernel_rfl) (by kernel_rfl) (by decide) (by kernel_rfl) (fun x => Nat.le_of_ble_eq_true (by kernel_rfl))
    (fun c h => by cases h) (fun c h => by cases h) (e40)
noncomputable def E40 : Entry Try.prog := ⟨40, pin40, os40, alts40, F40, k40, rfl⟩
/-! 33 alike -/
abbrev pin33 : VPL := (.cons (.agg (.cons (.int .i64) (.cons (.int .i64) (.cons (.int .i64) .nil)))) (.cons (.agg (.cons (.int .i64) (.cons (.int .i64) (.cons (.int .i64) .nil)))) .nil))
abbrev os33 : List OP := []
abbrev alts33 : List Alt := [(.bool, [])]
noncomputable def body33 : Code := match Try.f33.body with
  | some c => c
  | none => .skip
def F33 : pin33.T → OPL.T os33 → Option (AT alts33)
  | ((a1, (a2, (a3, ()))), ((a4, (a5, (a6, ()))), ())), () =>
    if decide (a1 = a4) = true then if decide (a2 = a5) = true then some (decide (a3 = a6), ()) else some (false, ())
    else some (false, ())
noncomputable def T33 : List (Entry Try.prog) := []
noncomputable def cuts33 : List (Cut (AT alts33)) := []
theorem e33 : ∀ x y, F33 x y = codeJ Try.prog (tableJ (T33)) (Lof 0 0 (cuts33)) body33 (st0 pin33 os33 x y) (endJ Try.prog 0 [.tmp 4] alts33) := by
  rintro ⟨⟨a1, ⟨a2, ⟨a3, ⟨⟩⟩⟩⟩, ⟨⟨a4, ⟨a5, ⟨a6, ⟨⟩⟩⟩⟩, ⟨⟩⟩⟩ ⟨⟩; kernel_rfl
theorem k33 : FnOK Try.prog 33 pin33 os33 alts33 (F33) :=
  fn_ok (fn := Try.f33) (body := body33) (cuts := cuts33) (k := 0) (C := tableJ (T33)) (C' := tableJ (T33)) (table_ok _) (table_nat _) (table_ok _) mixed (by kernel_rfl) (by kernel_rfl) (by decide) (by kernel_rfl) (fun x => Nat.le_of_ble_eq_true (by kernel_rfl))
    (fun c h => by cases h) (fun c h => by cases h) (e33)
noncomputable def E33 : Entry Try.prog := ⟨33, pin33, os33, alts33, F33, k33, rfl⟩
/-! 37 same -/
abbrev pin37 : VPL := (.cons .nils (.cons .nils (.cons (.int .i64) .nil)))
abbrev os37 : List OP := []
abbrev alts37 : List Alt := [(.bool, [])]
abbrev ps37_7 : VPL := (.cons .nils (.cons .nils (.cons (.int .i64) (.cons (.int .i64) .nil))))
abbrev os37_7 : List OP := []
noncomputable def body37 : Code := match Try.f37.body with
  | some c => c
  | none => .skip
def L37_7 : Nat → ps37_7.T → OPL.T os37_7 → Option (AT alts37)
  | 0, _, _ => none
  | k + 1, ((), ((), (a1, (a2, ())))), () =>
    if decide (a2 < a1) = true then none else some (true, ())
def F37 (k : Nat) : pin37.T → OPL.T os37 → Option (AT alts37)
  | ((), ((), (a1, ()))), () =>
    if decide ((0 : Int) < a1) = true then
      if decide (a1 < (0 : Int)) = true then
        if (!decide ((0 : Int) = a1)) = true then some (false, ()) else L37_7 k ((), (), a1, (0 : Int), ()) ()
      else L37_7 k ((), (), (0 : Int), (0 : Int), ()) ()
    else L37_7 k ((), (), (0 : Int), (0 : Int), ()) ()
noncomputable def T37 : List (Entry Try.prog) := [E33]
noncomputable def cuts37 : List (Cut (AT alts37)) := [⟨7, [0, 1, 7, 8], ps37_7, os37_7, L37_7⟩]
theorem s37_7 : ∀ k x y, L37_7 (k + 1) x y = roundJ Try.prog (tableJ (T37)) (Lof 0 k (cuts37)) 7 body37 (endJ Try.prog 0 [.tmp 6] alts37) (stAt [0, 1, 7, 8] ps37_7 os37_7 x y) := by
  rintro k ⟨⟨⟩, ⟨⟨⟩, ⟨a1, ⟨a2, ⟨⟩⟩⟩⟩⟩ ⟨⟩; kernel_rfl
theorem e37 (k : Nat) : ∀ x y, F37 k x y = codeJ Try.prog (tableJ (T37)) (Lof 0 k (cuts37)) body37 (st0 pin37 os37 x y) (endJ Try.prog 0 [.tmp 6] alts37) := by
  rintro ⟨⟨⟩, ⟨⟨⟩, ⟨a1, ⟨⟩⟩⟩⟩ ⟨⟩; kernel_rfl
theorem k37 (k : Nat) : FnOK Try.prog 37 pin37 os37 alts37 (F37 k) :=
  fn_ok (fn := Try.f37) (body := body37) (cuts := cuts37) (k := k) (C := tableJ (T37)) (C' := tableJ (T37)) (table_ok _) (table_nat _) (table_ok _) mixed (by kernel_rfl) (by kernel_rfl) (by decide) (by kernel_rfl) (fun x => Nat.le_of_ble_eq_true (by kernel_rfl))
    (List.forall_mem_cons.2 ⟨fun x y => rfl, fun c h => by cases h⟩) (List.forall_mem_cons.2 ⟨s37_7, fun c h => by cases h⟩) (e37 k)
noncomputable def E37 (k : Nat) : Entry Try.prog := ⟨37, pin37, os37, alts37, F37 k, k37 k, rfl⟩
/-! 32 ref Put -/
abbrev pin32 : VPL := (.cons .nilp (.cons (.agg (.cons (.int .i64) (.cons (.int .i64) (.cons (.int .i64) .nil)))) .nil))
abbrev os32 : List OP := []
abbrev alts32 : List Alt := [(.tup (.cons (.agg (.cons (.int .i64) (.cons (.int .i64) (.cons (.int .i64) .nil)))) (.cons .bool (.cons (.int .i64) .nil))), [])]
noncomputable def body32 : Code := match Try.f32.body with
  | some c => c
  | none => .skip
def F32 : pin32.T → OPL.T os32 → Option (AT alts32)
  | ((), ((a1, (a2, (a3, ()))), ())), () =>
    some ((((0 : Int), (0 : Int), (0 : Int), ()), false, (1 : Int), ()), ())
noncomputable def T32 : List (Entry Try.prog) := [E40]
noncomputable def cuts32 : List (Cut (AT alts32)) := []
theorem e32 : ∀ x y, F32 x y = codeJ Try.prog (tableJ (T32)) (Lof 0 0 (cuts32)) body32 (st0 pin32 os32 x y) (endJ Try.prog 0 [.cell 4 78, .tmp 5, .tmp 6] alts32) := by
  rintro ⟨⟨⟩, ⟨⟨a1, ⟨a2, ⟨a3, ⟨⟩⟩⟩⟩, ⟨⟩⟩⟩ ⟨⟩; kernel_rfl
theorem k32 : FnOK Try.prog 32 pin32 os32 alts32 (F32) :=
  fn_ok (fn := Try.f32) (body := body32) (cuts := cuts32) (k := 0) (C := tableJ (T32)) (C' := tableJ (T32)) (table_ok _) (table_nat _) (table_ok _) mixed (by kernel_rfl) (by kernel_rfl) (by decide) (by kernel_rfl) (fun x => Nat.le_of_ble_eq_true (by kernel_rfl))
    (fun c h => by cases h) (fun c h => by cases h) (e32)
noncomputable def E32 : Entry Try.prog := ⟨32, pin32, os32, alts32, F32, k32, rfl⟩
/-! 35 ref Top -/
abbrev pin35 : VPL := (.cons .nilp .nil)
abbrev os35 : List OP := []
abbrev alts35 : List Alt := [(.tup (.cons (.agg (.cons (.int .i64) (.cons (.int .i64) (.cons (.int .i64) .nil)))) (.cons .bool .nil)), [])]
noncomputable def body35 : Code := match Try.f35.body with
  | some c => c
  | none => .skip
def F35 : pin35.T → OPL.T os35 → Option (AT alts35)
  | ((), ()), () =>
    some ((((0 : Int), (0 : Int), (0 : Int), ()), false, ()), ())
noncomputable def T35 : List (Entry Try.prog) := [E40]
noncomputable def cuts35 : List (Cut (AT alts35)) := []
theorem e35 : ∀ x y, F35 x y = codeJ Try.prog (tableJ (T35)) (Lof 0 0 (cuts35)) body35 (st0 pin35 os35 x y) (endJ Try.prog 0 [.cell 2 78, .tmp 3] alts35) := by
  rintro ⟨⟨⟩, ⟨⟩⟩ ⟨⟩; kernel_rfl
theorem k35 : FnOK Try.prog 35 pin35 os35 alts35 (F35) :=
  fn_ok (fn := Try.f35) (body := body35) (cuts := cuts35) (k := 0) (C := tableJ (T35)) (C' := tableJ (T35)) (table_ok _) (table_nat _) (table_ok _) mixed (by kernel_rfl) (by kernel_rfl) (by decide) (by kernel_rfl) (fun x => Nat.le_of_ble_eq_true (by kernel_rfl))
    (fun c h => by cases h) (fun c h => by cases h) (e35)
noncomputable def E35 : Entry Try.prog := ⟨35, pin35, os35, alts35, F35, k35, rfl⟩
/-! 34 ref Pop -/
abbrev pin34 : VPL := (.cons .nilp .nil)
abbrev os34 : List OP := []
abbrev alts34 : List Alt := [(.tup (.cons (.agg (.cons (.int .i64) (.cons (.int .i64) (.cons (.int .i64) .nil)))) (.cons .bool .nil)), [])]
noncomputable def body34 : Code := match Try.f34.body with
  | some c => c
  | none => .skip
def F34 : pin34.T → OPL.T os34 → Option (AT alts34)
  | ((), ()), () =>
    Option.bind (F35 ((), ()) ()) fun val =>
      if (Prod.snd (Prod.fst val)).1 = true then none
      else
        some
          ((((Prod.fst (Prod.fst val)).1, (Prod.snd (Prod.fst (Prod.fst val))).1,
                (Prod.snd (Prod.snd (Prod.fst (Prod.fst val)))).1, ()),
              (Prod.snd (Prod.fst val)).1, ()),
            ())
noncomputable def T34 : List (Entry Try.prog) := [E35]
noncomputable def cuts34 : List (Cut (AT alts34)) := []
theorem e34 : ∀ x y, F34 x y = codeJ Try.prog (tableJ (T34)) (Lof 0 0 (cuts34)) body34 (st0 pin34 os34 x y) (endJ Try.prog 0 [.cell 2 78, .tmp 3] alts34) := by
  rintro ⟨⟨⟩, ⟨⟩⟩ ⟨⟩; kernel_rfl
theorem k34 : FnOK Try.prog 34 pin34 os34 alts34 (F34) :=
  fn_ok (fn := Try.f34) (body := body34) (cuts := cuts34) (k := 0) (C := tableJ (T34)) (C' := tableJ (T34)) (table_ok _) (table_nat _) (table_ok _) mixed (by kernel_rfl) (by kernel_rfl) (by decide) (by kernel_rfl) (fun x => Nat.le_of_ble_eq_true (by kernel_rfl))
    (fun c h => by cases h) (fun c h => by cases h) (e34)
noncomputable def E34 : Entry Try.prog := ⟨34, pin34, os34, alts34, F34, k34, rfl⟩
/-! 36 ref Worst -/
abbrev pin36 : VPL := (.cons .nilp .nil)
abbrev os36 : List OP := []
abbrev alts36 : List Alt := [(.tup (.cons (.agg (.cons (.int .i64) (.cons (.int .i64) (.cons (.int .i64) .nil)))) (.cons .bool .nil)), [])]
noncomputable def body36 : Code := match Try.f36.body with
  | some c => c
  | none => .skip
def F36 : pin36.T → OPL.T os36 → Option (AT alts36)
  | ((), ()), () =>
    some ((((0 : Int), (0 : Int), (0 : Int), ()), false, ()), ())
noncomputable def T36 : List (Entry Try.prog) := [E40]
noncomputable def cuts36 : List (Cut (AT alts36)) := []
theorem e36 : ∀ x y, F36 x y = codeJ Try.prog (tableJ (T36)) (Lof 0 0 (cuts36)) body36 (st0 pin36 os36 x y) (endJ Try.prog 0 [.cell 2 78, .tmp 3] alts36) := by
  rintro ⟨⟨⟩, ⟨⟩⟩ ⟨⟩; kernel_rfl
theorem k36 : FnOK Try.prog 36 pin36 os36 alts36 (F36) :=
  fn_ok (fn := Try.f36) (body := body36) (cuts := cuts36) (k := 0) (C := tableJ (T36)) (C' := tableJ (T36)) (table_ok _) (table_nat _) (table_ok _) mixed (by kernel_rfl) (by kernel_rfl) (by decide) (by kernel_rfl) (fun x => Nat.le_of_ble_eq_true (by kernel_rfl))
    (fun c h => by cases h) (fun c h => by cases h) (e36)
noncomputable def E36 : Entry Try.prog := ⟨36, pin36, os36, alts36, F36, k36, rfl⟩
/-! 21n asks -/
abbrev pin21n : VPL := (.cons .nilp (.cons .nilp (.cons (.agg (.cons (.int .i64) (.cons (.int .i64) (.cons (.int .i64) (.cons (.int .i64) (.cons (.int .i64) .nil)))))) .nil)))
abbrev os21n : List OP := []
abbrev alts21n : List Alt := [(.bool, [])]
noncomputable def body21n : Code := match Try.f21.body with
  | some c => c
  | none => .skip
def F21n (k : Nat) : pin21n.T → OPL.T os21n → Option (AT alts21n)
  | ((), ((), ((a1, (a2, (a3, (a4, (a5, ()))))), ()))), () =>
    if decide (a1 = (1 : Int)) = true then
      Option.bind (F12n ((), (a2, a3, a4, ()), ()) ()) fun val =>
        Option.bind (F32 ((), (a2, a3, a4, ()), ()) ()) fun val_1 =>
          Option.bind
            (F33
              (((Prod.fst (Prod.fst val)).1, (Prod.snd (Prod.fst (Prod.fst val))).1,
                  (Prod.snd (Prod.snd (Prod.fst (Prod.fst val)))).1, ()),
                ((Prod.fst (Prod.fst val_1)).1, (Prod.snd (Prod.fst (Prod.fst val_1))).1,
                  (Prod.snd (Prod.snd (Prod.fst (Prod.fst val_1)))).1, ()),
                ())
              ())
            fun val_2 =>
            if val_2.1 = true then
              if ((Prod.snd (Prod.fst val)).1 == (Prod.snd (Prod.fst val_1)).1) = true then
                Option.bind (F10 ((Prod.snd (Prod.snd (Prod.fst val))).1, ()) ()) fun val =>
                  some (decide (val.1 = (Prod.snd (Prod.snd (Prod.fst val_1))).1), ())
              else some (false, ())
            else some (false, ())
    else
      if decide (a1 = (2 : Int)) = true then
        Option.bind (F13n ((), ()) ()) fun val =>
          Option.bind (F34 ((), ()) ()) fun val_1 =>
            Option.bind
              (F33
                (((Prod.fst (Prod.fst val)).1, (Prod.snd (Prod.fst (Prod.fst val))).1,
                    (Prod.snd (Prod.snd (Prod.fst (Prod.fst val)))).1, ()),
                  ((Prod.fst (Prod.fst val_1)).1, (Prod.snd (Prod.fst (Prod.fst val_1))).1,
                    (Prod.snd (Prod.snd (Prod.fst (Prod.fst val_1)))).1, ()),
                  ())
                ())
              fun val_2 =>
              if val_2.1 = true then some ((Prod.snd (Prod.fst val)).1 == (Prod.snd (Prod.fst val_1)).1, ())
              else some (false, ())
      else
        if decide (a1 = (3 : Int)) = true then
          Option.bind (F25n ((), ()) ()) fun val =>
            Option.bind (F35 ((), ()) ()) fun val_1 =>
              Option.bind
                (F33
                  (((Prod.fst (Prod.fst val)).1, (Prod.snd (Prod.fst (Prod.fst val))).1,
                      (Prod.snd (Prod.snd (Prod.fst (Prod.fst val)))).1, ()),
                    ((Prod.fst (Prod.fst val_1)).1, (Prod.snd (Prod.fst (Prod.fst val_1))).1,
                      (Prod.snd (Prod.snd (Prod.fst (Prod.fst val_1)))).1, ()),
                    ())
                  ())
                fun val_2 =>
                if val_2.1 = true then some ((Prod.snd (Prod.fst val)).1 == (Prod.snd (Prod.fst val_1)).1, ())
                else some (false, ())
        else
          if decide (a1 = (4 : Int)) = true then
            Option.bind (F15n ((), ()) ()) fun val =>
              Option.bind (F36 ((), ()) ()) fun val_1 =>
                Option.bind
                  (F33
                    (((Prod.fst (Prod.fst val)).1, (Prod.snd (Prod.fst (Prod.fst val))).1,
                        (Prod.snd (Prod.snd (Prod.fst (Prod.fst val)))).1, ()),
                      ((Prod.fst (Prod.fst val_1)).1, (Prod.snd (Prod.fst (Prod.fst val_1))).1,
                        (Prod.snd (Prod.snd (Prod.fst (Prod.fst val_1)))).1, ()),
                      ())
                    ())
                  fun val_2 =>
                  if val_2.1 = true then some ((Prod.snd (Prod.fst val)).1 == (Prod.snd (Prod.fst val_1)).1, ())
                  else some (false, ())
          else
            if decide (a1 = (5 : Int)) = true then
              Option.bind (F19n ((), a5, ()) ()) fun val =>
                if (Prod.snd (Prod.fst val)).1 = true then
                  if (Prod.snd (Prod.fst val)).1 = true then
                    if (Prod.snd (Prod.fst val)).1 = true then
                      Option.bind (F38 ((), ()) ()) fun val_1 =>
                        if (Prod.snd (Prod.fst val)).1 = true then
                          if (Prod.snd (Prod.fst val)).1 = true then
                            if (Prod.snd (Prod.fst val)).1 = true then
                              Option.bind ((F37 k) ((), (), a5, ()) ()) fun val => some (val.1, ())
                            else some (false, ())
                          else if (Prod.snd (Prod.fst val)).1 = true then none else some (false, ())
                        else
                          if (Prod.snd (Prod.fst val)).1 = true then none
                          else if (Prod.snd (Prod.fst val)).1 = true then none else some (false, ())
                    else
                      if (Prod.snd (Prod.fst val)).1 = true then
                        if (Prod.snd (Prod.fst val)).1 = true then
                          if (Prod.snd (Prod.fst val)).1 = true then none else some (false, ())
                        else if (Prod.snd (Prod.fst val)).1 = true then none else some (false, ())
                      else
                        if (Prod.snd (Prod.fst val)).1 = true then none
                        else if (Prod.snd (Prod.fst val)).1 = true then none else some (false, ())
                  else
                    if (Prod.snd (Prod.fst val)).1 = true then none
                    else
                      if (Prod.snd (Prod.fst val)).1 = true then
                        if (Prod.snd (Prod.fst val)).1 = true then
                          if (Prod.snd (Prod.fst val)).1 = true then none else some (false, ())
                        else if (Prod.snd (Prod.fst val)).1 = true then none else some (false, ())
                      else
                        if (Prod.snd (Prod.fst val)).1 = true then none
                        else if (Prod.snd (Prod.fst val)).1 = true then none else some (false, ())
                else
                  if (Prod.snd (Prod.fst val)).1 = true then
                    if (Prod.snd (Prod.fst val)).1 = true then
                      Option.bind (F38 ((), ()) ()) fun val_1 =>
                        if (Prod.snd (Prod.fst val)).1 = true then
                          if (Prod.snd (Prod.fst val)).1 = true then
                            if (Prod.snd (Prod.fst val)).1 = true then none else some (false, ())
                          else if (Prod.snd (Prod.fst val)).1 = true then none else some (false, ())
                        else
                          if (Prod.snd (Prod.fst val)).1 = true then none
                          else if (Prod.snd (Prod.fst val)).1 = true then none else some (false, ())
                    else
                      if (Prod.snd (Prod.fst val)).1 = true then
                        if (Prod.snd (Prod.fst val)).1 = true then
                          if (Prod.snd (Prod.fst val)).1 = true then none else some (false, ())
                        else if (Prod.snd (Prod.fst val)).1 = true then none else some (false, ())
                      else
                        if (Prod.snd (Prod.fst val)).1 = true then none
                        else if (Prod.snd (Prod.fst val)).1 = true then none else some (false, ())
                  else
                    if (Prod.snd (Prod.fst val)).1 = true then none
                    else
                      if (Prod.snd (Prod.fst val)).1 = true then
                        if (Prod.snd (Prod.fst val)).1 = true then
                          if (Prod.snd (Prod.fst val)).1 = true then none else some (false, ())
                        else if (Prod.snd (Prod.fst val)).1 = true then none else some (false, ())
                      else
                        if (Prod.snd (Prod.fst val)).1 = true then none
                        else if (Prod.snd (Prod.fst val)).1 = true then none else some (false, ())
            else
              Option.bind (F17n ((), ()) ()) fun val =>
                Option.bind (F39 ((), ()) ()) fun val_1 =>
                  Option.bind (F14n ((), ()) ()) fun val_2 =>
                    Option.bind (F40 ((), ()) ()) fun val_3 =>
                      if decide (val_2.1 = val_3.1) = true then
                        if decide ((Prod.fst val).1 = (Prod.fst val_1).1) = true then
                          some ((Prod.snd (Prod.fst val)).1 == (Prod.snd (Prod.fst val_1)).1, ())
                        else some (false, ())
                      else some (false, ())
noncomputable def T21n (K : Nat) : List (Entry Try.prog) := [E12n, E32, E10, E33, E13n, E34, E25n, E35, E15n, E36, E19n, E38, E37 K, E17n, E39, E14n, E40]
noncomputable def cuts21n (K : Nat) : List (Cut (AT alts21n)) := []
theorem e21n (k : Nat) : ∀ x y, F21n k x y = codeJ Try.prog (tableJ (T21n k)) (Lof 0 k (cuts21n k)) body21n (st0 pin21n os21n x y) (endJ Try.prog 0 [.tmp 6] alts21n) := by
  rintro ⟨⟨⟩, ⟨⟨⟩, ⟨⟨a1, ⟨a2, ⟨a3, ⟨a4, ⟨a5, ⟨⟩⟩⟩⟩⟩⟩, ⟨⟩⟩⟩⟩ ⟨⟩; kernel_rfl
theorem k21n (k : Nat) : FnOK Try.prog 21 pin21n os21n alts21n (F21n k) :=
  fn_ok (fn := Try.f21) (body := body21n) (cuts := cuts21n k) (k := k) (C := tableJ (T21n k)) (C' := tableJ (T21n k)) (table_ok _) (table_nat _) (table_ok _) mixed (by kernel_rfl) (by kernel_rfl) (by decide) (by kernel_rfl) (fun x => Nat.le_of_ble_eq_true (by kernel_rfl))
    (fun c h => by cases h) (fun c h => by cases h) (e21n k)
noncomputable def E21n (k : Nat) : Entry Try.prog := ⟨21, pin21n, os21n, alts21n, F21n k, k21n k, rfl⟩
/-! 21z asks -/
abbrev pin21z : VPL := (.cons (.ptr 0 0) (.cons .nilp (.cons (.agg (.cons (.int .i64) (.cons (.int .i64) (.cons (.int .i64) (.cons (.int .i64) (.cons (.int .i64) .nil)))))) .nil)))
abbrev os21z : List OP := [.box (.cons (.int .i64) (.cons .nils (.cons .nils (.cons .nilp (.cons .nilp (.cons (.int .u64) (.cons (.int .i64) (.cons .bool .nil)))))))) false]
abbrev alts21z : List Alt := [(.bool, [.box (.cons (.int .i64) (.cons .nils (.cons .nils (.cons .nilp (.cons .nilp (.cons (.int .u64) (.cons (.int .i64) (.cons .bool .nil)))))))) false])]
noncomputable def body21z : Code := match Try.f21.body with
  | some c => c
  | none => .skip
def F21z (k : Nat) : pin21z.T → OPL.T os21z → Option (AT alts21z)
  | ((), ((), ((a1, (a2, (a3, (a4, (a5, ()))))), ()))), ((a6, ((), ((), ((), ((), (a7, (a8, (a9, ())))))))), ()) =>
    if decide (a1 = (1 : Int)) = true then
      Option.bind (F12z ((), (a2, a3, a4, ()), ()) ((a6, (), (), (), (), a7, a8, a9, ()), ())) fun val =>
        Option.bind (F32 ((), (a2, a3, a4, ()), ()) ()) fun val_1 =>
          Option.bind
            (F33
              (((Prod.fst (Prod.fst val)).1, (Prod.snd (Prod.fst (Prod.fst val))).1,
                  (Prod.snd (Prod.snd (Prod.fst (Prod.fst val)))).1, ()),
                ((Prod.fst (Prod.fst val_1)).1, (Prod.snd (Prod.fst (Prod.fst val_1))).1,
                  (Prod.snd (Prod.snd (Prod.fst (Prod.fst val_1)))).1, ()),
                ())
              ())
            fun val_2 =>
            if val_2.1 = true then
              if ((Prod.snd (Prod.fst val)).1 == (Prod.snd (Prod.fst val_1)).1) = true then
                Option.bind (F10 ((Prod.snd (Prod.snd (Prod.fst val))).1, ()) ()) fun val =>
                  some (decide (val.1 = (Prod.snd (Prod.snd (Prod.fst val_1))).1), (a6, (), (), (), (), a7, a8, a9, ()), ())
              else some (false, (a6, (), (), (), (), a7, a8, a9, ()), ())
            else some (false, (a6, (), (), (), (), a7, a8, a9, ()), ())
    else
      if decide (a1 = (2 : Int)) = true then
        Option.bind (F13z ((), ()) ((a6, (), (), (), (), a7, a8, a9, ()), ())) fun val =>
          Option.bind (F34 ((), ()) ()) fun val_1 =>
            Option.bind
              (F33
                (((Prod.fst (Prod.fst val)).1, (Prod.snd (Prod.fst (Prod.fst val))).1,
                    (Prod.snd (Prod.snd (Prod.fst (Prod.fst val)))).1, ()),
                  ((Prod.fst (Prod.fst val_1)).1, (Prod.snd (Prod.fst (Prod.fst val_1))).1,
                    (Prod.snd (Prod.snd (Prod.fst (Prod.fst val_1)))).1, ()),
                  ())
                ())
              fun val_2 =>
              if val_2.1 = true then
                some
                  ((Prod.snd (Prod.fst val)).1 == (Prod.snd (Prod.fst val_1)).1, (a6, (), (), (), (), a7, a8, a9, ()), ())
              else some (false, (a6, (), (), (), (), a7, a8, a9, ()), ())
      else
        if decide (a1 = (3 : Int)) = true then
          Option.bind (F25z ((), ()) ((a6, (), (), (), (), a7, a8, a9, ()), ())) fun val =>
            Option.bind (F35 ((), ()) ()) fun val_1 =>
              Option.bind
                (F33
                  (((Prod.fst (Prod.fst val)).1, (Prod.snd (Prod.fst (Prod.fst val))).1,
                      (Prod.snd (Prod.snd (Prod.fst (Prod.fst val)))).1, ()),
                    ((Prod.fst (Prod.fst val_1)).1, (Prod.snd (Prod.fst (Prod.fst val_1))).1,
                      (Prod.snd (Prod.snd (Prod.fst (Prod.fst val_1)))).1, ()),
                    ())
                  ())
                fun val_2 =>
                if val_2.1 = true then
                  some
                    ((Prod.snd (Prod.fst val)).1 == (Prod.snd (Prod.fst val_1)).1, (a6, (), (), (), (), a7, a8, a9, ()), ())
                else some (false, (a6, (), (), (), (), a7, a8, a9, ()), ())
        else
          if decide (a1 = (4 : Int)) = true then
            Option.bind (F15z ((), ()) ((a6, (), (), (), (), a7, a8, a9, ()), ())) fun val =>
              Option.bind (F36 ((), ()) ()) fun val_1 =>
                Option.bind
                  (F33
                    (((Prod.fst (Prod.fst val)).1, (Prod.snd (Prod.fst (Prod.fst val))).1,
                        (Prod.snd (Prod.snd (Prod.fst (Prod.fst val)))).1, ()),
                      ((Prod.fst (Prod.fst val_1)).1, (Prod.snd (Prod.fst (Prod.fst val_1))).1,
                        (Prod.snd (Prod.snd (Prod.fst (Prod.fst val_1)))).1, ()),
                      ())
                    ())
                  fun val_2 =>
                  if val_2.1 = true then
                    some
                      ((Prod.snd (Prod.fst val)).1 == (Prod.snd (Prod.fst val_1)).1, (a6, (), (), (), (), a7, a8, a9, ()),
                        ())
                  else some (false, (a6, (), (), (), (), a7, a8, a9, ()), ())
          else
            if decide (a1 = (5 : Int)) = true then
              Option.bind (F19z ((), a5, ()) ((a6, (), (), (), (), a7, a8, a9, ()), ())) fun val =>
                if (Prod.snd (Prod.fst val)).1 = true then
                  if (Prod.snd (Prod.fst val)).1 = true then
                    if (Prod.snd (Prod.fst val)).1 = true then
                      Option.bind (F38 ((), ()) ()) fun val_1 =>
                        if (Prod.snd (Prod.fst val)).1 = true then
                          if (Prod.snd (Prod.fst val)).1 = true then
                            if (Prod.snd (Prod.fst val)).1 = true then
                              Option.bind ((F37 k) ((), (), a5, ()) ()) fun val =>
                                some (val.1, (a6, (), (), (), (), a7, a8, a9, ()), ())
                            else some (false, (a6, (), (), (), (), a7, a8, a9, ()), ())
                          else
                            if (Prod.snd (Prod.fst val)).1 = true then none
                            else some (false, (a6, (), (), (), (), a7, a8, a9, ()), ())
                        else
                          if (Prod.snd (Prod.fst val)).1 = true then none
                          else
                            if (Prod.snd (Prod.fst val)).1 = true then none
                            else some (false, (a6, (), (), (), (), a7, a8, a9, ()), ())
                    else
                      if (Prod.snd (Prod.fst val)).1 = true then
                        if (Prod.snd (Prod.fst val)).1 = true then
                          if (Prod.snd (Prod.fst val)).1 = true then none
                          else some (false, (a6, (), (), (), (), a7, a8, a9, ()), ())
                        else
                          if (Prod.snd (Prod.fst val)).1 = true then none
                          else some (false, (a6, (), (), (), (), a7, a8, a9, ()), ())
                      else
                        if (Prod.snd (Prod.fst val)).1 = true then none
                        else
                          if (Prod.snd (Prod.fst val)).1 = true then none
                          else some (false, (a6, (), (), (), (), a7, a8, a9, ()), ())
                  else
                    if (Prod.snd (Prod.fst val)).1 = true then none
                    else
                      if (Prod.snd (Prod.fst val)).1 = true then
                        if (Prod.snd (Prod.fst val)).1 = true then
                          if (Prod.snd (Prod.fst val)).1 = true then none
                          else some (false, (a6, (), (), (), (), a7, a8, a9, ()), ())
                        else
                          if (Prod.snd (Prod.fst val)).1 = true then none
                          else some (false, (a6, (), (), (), (), a7, a8, a9, ()), ())
                      else
                        if (Prod.snd (Prod.fst val)).1 = true then none
                        else
                          if (Prod.snd (Prod.fst val)).1 = true then none
                          else some (false, (a6, (), (), (), (), a7, a8, a9, ()), ())
                else
                  if (Prod.snd (Prod.fst val)).1 = true then
                    if (Prod.snd (Prod.fst val)).1 = true then
                      Option.bind (F38 ((), ()) ()) fun val_1 =>
                        if (Prod.snd (Prod.fst val)).1 = true then
                          if (Prod.snd (Prod.fst val)).1 = true then
                            if (Prod.snd (Prod.fst val)).1 = true then none
                            else some (false, (a6, (), (), (), (), a7, a8, a9, ()), ())
                          else
                            if (Prod.snd (Prod.fst val)).1 = true then none
                            else some (false, (a6, (), (), (), (), a7, a8, a9, ()), ())
                        else
                          if (Prod.snd (Prod.fst val)).1 = true then none
                          else
                            if (Prod.snd (Prod.fst val)).1 = true then none
                            else some (false, (a6, (), (), (), (), a7, a8, a9, ()), ())
                    else
                      if (Prod.snd (Prod.fst val)).1 = true then
                        if (Prod.snd (Prod.fst val)).1 = true then
                          if (Prod.snd (Prod.fst val)).1 = true then none
                          else some (false, (a6, (), (), (), (), a7, a8, a9, ()), ())
                        else
                          if (Prod.snd (Prod.fst val)).1 = true then none
                          else some (false, (a6, (), (), (), (), a7, a8, a9, ()), ())
                      else
                        if (Prod.snd (Prod.fst val)).1 = true then none
                        else
                          if (Prod.snd (Prod.fst val)).1 = true then none
                          else some (false, (a6, (), (), (), (), a7, a8, a9, ()), ())
                  else
                    if (Prod.snd (Prod.fst val)).1 = true then none
                    else
                      if (Prod.snd (Prod.fst val)).1 = true then
                        if (Prod.snd (Prod.fst val)).1 = true then
                          if (Prod.snd (Prod.fst val)).1 = true then none
                          else some (false, (a6, (), (), (), (), a7, a8, a9, ()), ())
                        else
                          if (Prod.snd (Prod.fst val)).1 = true then none
                          else some (false, (a6, (), (), (), (), a7, a8, a9, ()), ())
                      else
                        if (Prod.snd (Prod.fst val)).1 = true then none
                        else
                          if (Prod.snd (Prod.fst val)).1 = true then none
                          else some (false, (a6, (), (), (), (), a7, a8, a9, ()), ())
            else
              Option.bind (F17z ((), ()) ((a6, (), (), (), (), a7, a8, a9, ()), ())) fun val =>
                Option.bind (F39 ((), ()) ()) fun val_1 =>
                  Option.bind (F14z ((), ()) ((a6, (), (), (), (), a7, a8, a9, ()), ())) fun val_2 =>
                    Option.bind (F40 ((), ()) ()) fun val_3 =>
                      if decide (val_2.1 = val_3.1) = true then
                        if decide ((Prod.fst val).1 = (Prod.fst val_1).1) = true then
                          some
                            ((Prod.snd (Prod.fst val)).1 == (Prod.snd (Prod.fst val_1)).1,
                              (a6, (), (), (), (), a7, a8, a9, ()), ())
                        else some (false, (a6, (), (), (), (), a7, a8, a9, ()), ())
                      else some (false, (a6, (), (), (), (), a7, a8, a9, ()), ())
noncomputable def T21z (K : Nat) : List (Entry Try.prog) := [E12z, E32, E10, E33, E13z, E34, E25z, E35, E15z, E36, E19z, E38, E37 K, E17z, E39, E14z, E40]
noncomputable def cuts21z (K : Nat) : List (Cut (AT alts21z)) := []
theorem e21z (k : Nat) : ∀ x y, F21z k x y = codeJ Try.prog (tableJ (T21z k)) (Lof 1 k (cuts21z k)) body21z (st0 pin21z os21z x y) (endJ Try.prog 1 [.tmp 6] alts21z) := by
  rintro ⟨⟨⟩, ⟨⟨⟩, ⟨⟨a1, ⟨a2, ⟨a3, ⟨a4, ⟨a5, ⟨⟩⟩⟩⟩⟩⟩, ⟨⟩⟩⟩⟩ ⟨⟨a6, ⟨⟨⟩, ⟨⟨⟩, ⟨⟨⟩, ⟨⟨⟩, ⟨a7, ⟨a8, ⟨a9, ⟨⟩⟩⟩⟩⟩⟩⟩⟩⟩, ⟨⟩⟩; kernel_rfl
theorem k21z (k : Nat) : FnOK Try.prog 21 pin21z os21z alts21z (F21z k) :=
  fn_ok (fn := Try.f21) (body := body21z) (cuts := cuts21z k) (k := k) (C := tableJ (T21z k)) (C' := tableJ (T21z k)) (table_ok _) (table_nat _) (table_ok _) mixed (by kernel_rfl) (by kernel_rfl) (by decide) (by kernel_rfl) (fun x => Nat.le_of_ble_eq_true (by kernel_rfl))
    (fun c h => by cases h) (fun c h => by cases h) (e21z k)
noncomputable def E21z (k : Nat) : Entry Try.prog := ⟨21, pin21z, os21z, alts21z, F21z k, k21z k, rfl⟩
/-! 8 HeapNil -/
abbrev pin8 : VPL := (.cons (.lst true (.many [.int .i64, .int .i64, .int .i64, .int .i64, .int .i64])) .nil)
abbrev os8 : List OP := []
abbrev alts8 : List Alt := [(.bool, [])]
abbrev ps8_4 : VPL := (.cons (.lst true (.many [.int .i64, .int .i64, .int .i64, .int .i64, .int .i64])) (.cons .nilp (.cons (.ptr 0 0) (.cons (.int .i64) .nil))))
abbrev os8_4 : List OP := [.box (.cons (.int .i64) (.cons .nils (.cons .nils (.cons .nilp (.cons .nilp (.cons (.int .u64) (.cons (.int .i64) (.cons .bool .nil)))))))) true]
noncomputable def body8 : Code := match Try.f8.body with
  | some c => c
  | none => .skip
def L8_4 (K : Nat) : Nat → ps8_4.T → OPL.T os8_4 → Option (AT alts8)
  | 0, _, _ => none
  | k + 1, (a1, ((), ((), (a2, ())))), ((a3, ((), ((), ((), ((), (a4, (a5, (a6, ())))))))), ()) =>
    if decide (a2 < (↑(List.length a1) : Int)) = true then
      if (0 : Int) ≤ a2 ∧ a2 < (↑(List.length a1) : Int) then
        Option.bind
          ((F21n K)
            ((), (),
              ((List.getD (Prod.fst (a1, (), (), a2, ()))
                    (Int.toNat (Prod.fst (Prod.snd (Prod.snd (Prod.snd (a1, (), (), a2, ()))))))
                    (EK.dflt
                      (EK.many
                        [SK.int IntKind.i64, SK.int IntKind.i64, SK.int IntKind.i64, SK.int IntKind.i64,
                          SK.int IntKind.i64]))).1,
                (Prod.snd
                    (List.getD (Prod.fst (a1, (), (), a2, ()))
                      (Int.toNat (Prod.fst (Prod.snd (Prod.snd (Prod.snd (a1, (), (), a2, ()))))))
                      (EK.dflt
                        (EK.many
                          [SK.int IntKind.i64, SK.int IntKind.i64, SK.int IntKind.i64, SK.int IntKind.i64,
                            SK.int IntKind.i64])))).1,
                (Prod.snd
                    (Prod.snd
                      (List.getD (Prod.fst (a1, (), (), a2, ()))
                        (Int.toNat (Prod.fst (Prod.snd (Prod.snd (Prod.snd (a1, (), (), a2, ()))))))
                        (EK.dflt
                          (EK.many
                            [SK.int IntKind.i64, SK.int IntKind.i64, SK.int IntKind.i64, SK.int IntKind.i64,
                              SK.int IntKind.i64]))))).1,
                (Prod.snd
                    (Prod.snd
                      (Prod.snd
                        (List.getD (Prod.fst (a1, (), (), a2, ()))
                          (Int.toNat (Prod.fst (Prod.snd (Prod.snd (Prod.snd (a1, (), (), a2, ()))))))
                          (EK.dflt
                            (EK.many
                              [SK.int IntKind.i64, SK.int IntKind.i64, SK.int IntKind.i64, SK.int IntKind.i64,
                                SK.int IntKind.i64])))))).1,
                (Prod.snd
                    (Prod.snd
                      (Prod.snd
                        (List.getD (Prod.fst (a1, (), (), a2, ()))
                          (Int.toNat (Prod.fst (Prod.snd (Prod.snd (Prod.snd (a1, (), (), a2, ()))))))
                          (EK.dflt
                            (EK.many
                              [SK.int IntKind.i64, SK.int IntKind.i64, SK.int IntKind.i64, SK.int IntKind.i64,
                                SK.int IntKind.i64])))))).2,
                ()),
              ())
            ())
          fun val =>
          if (!val.1) = true then some (false, ())
          else
            if (0 : Int) ≤ a2 ∧ a2 < (↑(List.length a1) : Int) then
              Option.bind
                ((F21z K)
                  ((), (),
                    ((List.getD (Prod.fst (a1, (), (), a2, ()))
                          (Int.toNat (Prod.fst (Prod.snd (Prod.snd (Prod.snd (a1, (), (), a2, ()))))))
                          (EK.dflt
                            (EK.many
                              [SK.int IntKind.i64, SK.int IntKind.i64, SK.int IntKind.i64, SK.int IntKind.i64,
                                SK.int IntKind.i64]))).1,
                      (Prod.snd
                          (List.getD (Prod.fst (a1, (), (), a2, ()))
                            (Int.toNat (Prod.fst (Prod.snd (Prod.snd (Prod.snd (a1, (), (), a2, ()))))))
                            (EK.dflt
                              (EK.many
                                [SK.int IntKind.i64, SK.int IntKind.i64, SK.int IntKind.i64, SK.int IntKind.i64,
                                  SK.int IntKind.i64])))).1,
                      (Prod.snd
                          (Prod.snd
                            (List.getD (Prod.fst (a1, (), (), a2, ()))
                              (Int.toNat (Prod.fst (Prod.snd (Prod.snd (Prod.snd (a1, (), (), a2, ()))))))
                              (EK.dflt
                                (EK.many
                                  [SK.int IntKind.i64, SK.int IntKind.i64, SK.int IntKind.i64, SK.int IntKind.i64,
                                    SK.int IntKind.i64]))))).1,
                      (Prod.snd
                          (Prod.snd
                            (Prod.snd
                              (List.getD (Prod.fst (a1, (), (), a2, ()))
                                (Int.toNat (Prod.fst (Prod.snd (Prod.snd (Prod.snd (a1, (), (), a2, ()))))))
                                (EK.dflt
                                  (EK.many
                                    [SK.int IntKind.i64, SK.int IntKind.i64, SK.int IntKind.i64, SK.int IntKind.i64,
                                      SK.int IntKind.i64])))))).1,
                      (Prod.snd
                          (Prod.snd
                            (Prod.snd
                              (List.getD (Prod.fst (a1, (), (), a2, ()))
                                (Int.toNat (Prod.fst (Prod.snd (Prod.snd (Prod.snd (a1, (), (), a2, ()))))))
                                (EK.dflt
                                  (EK.many
                                    [SK.int IntKind.i64, SK.int IntKind.i64, SK.int IntKind.i64, SK.int IntKind.i64,
                                      SK.int IntKind.i64])))))).2,
                      ()),
                    ())
                  ((a3, (), (), (), (), a4, a5, a6, ()), ()))
                fun val =>
                if (!val.1) = true then some (false, ())
                else
                  (L8_4 K) k (a1, (), (), IntKind.wrap IntKind.i64 (a2 + (1 : Int)), ())
                    ((a3, (), (), (), (), a4, a5, a6, ()), ())
            else none
      else none
    else
      Option.bind ((F21n K) ((), (), ((5 : Int), (0 : Int), (0 : Int), (0 : Int), (0 : Int), ()), ()) ()) fun val =>
        if val.1 = true then
          Option.bind
            ((F21z K) ((), (), ((5 : Int), (0 : Int), (0 : Int), (0 : Int), (0 : Int), ()), ())
              ((a3, (), (), (), (), a4, a5, a6, ()), ()))
            fun val => if val.1 = true then Option.bind ((F11 K) () ()) fun val => some (val.1, ()) else some (false, ())
        else some (false, ())
def F8 (k : Nat) : pin8.T → OPL.T os8 → Option (AT alts8)
  | (a1, ()), () =>
    (L8_4 k) k (a1, (), (), (0 : Int), ()) (((0 : Int), (), (), (), (), (0 : Int), (0 : Int), false, ()), ())
noncomputable def T8 (K : Nat) : List (Entry Try.prog) := [E21n K, E21z K, E11 K]
noncomputable def cuts8 (K : Nat) : List (Cut (AT alts8)) := [⟨4, [0, 3, 4, 5], ps8_4, os8_4, L8_4 K⟩]
theorem s8_4 (K : Nat) : ∀ k x y, L8_4 K (k + 1) x y = roundJ Try.prog (tableJ (T8 K)) (Lof 0 k (cuts8 K)) 4 body8 (endJ Try.prog 0 [.tmp 2] alts8) (stAt [0, 3, 4, 5] ps8_4 os8_4 x y) := by
  rintro k ⟨a1, ⟨⟨⟩, ⟨⟨⟩, ⟨a2, ⟨⟩⟩⟩⟩⟩ ⟨⟨a3, ⟨⟨⟩, ⟨⟨⟩, ⟨⟨⟩, ⟨⟨⟩, ⟨a4, ⟨a5, ⟨a6, ⟨⟩⟩⟩⟩⟩⟩⟩⟩⟩, ⟨⟩⟩; kernel_rfl
theorem e8 (k : Nat) : ∀ x y, F8 k x y = codeJ Try.prog (tableJ (T8 k)) (Lof 0 k (cuts8 k)) body8 (st0 pin8 os8 x y) (endJ Try.prog 0 [.tmp 2] alts8) := by
  rintro ⟨a1, ⟨⟩⟩ ⟨⟩; kernel_rfl
theorem k8 (k : Nat) : FnOK Try.prog 8 pin8 os8 alts8 (F8 k) :=
  fn_ok (fn := Try.f8) (body := body8) (cuts := cuts8 k) (k := k) (C := tableJ (T8 k)) (C' := tableJ (T8 k)) (table_ok _) (table_nat _) (table_ok _) mixed (by kernel_rfl) (by kernel_rfl) (by decide) (by kernel_rfl) (fun x => Nat.le_of_ble_eq_true (by kernel_rfl))
    (List.forall_mem_cons.2 ⟨fun x y => rfl, fun c h => by cases h⟩) (List.forall_mem_cons.2 ⟨s8_4 k, fun c h => by cases h⟩) (e8 k)
noncomputable def E8 (k : Nat) : Entry Try.prog := ⟨8, pin8, os8, alts8, F8 k, k8 k, rfl⟩
end Go.Eng.He

