/- What the functions of this seat come to, in plain Lean, part 2. No condition. -/
import Derived.Test.YtinjfnjhhdjklaaG1
import Derived.Test.YtinjfnjhhdjklaaE3
import Derived.Test.YtinjfnjhhdjklaaProg
import Derived.KernelRfl
set_option linter.unusedVariables false
set_option linter.unusedSimpArgs false
set_option linter.unusedVariables false
set_option maxRecDepth 100000
open Go Go.Eng Go.Proofs
namespace Go.Eng.He
/-! 12 Put -/
abbrev pin12 : VPL := (.cons (.ptr 0 0) (.cons (.agg (.cons (.int .i64) (.cons (.int .i64) (.cons (.int .i64) .nil)))) .nil))
abbrev os12 : List OP := [.box (.cons (.int .i64) (.cons (.full 1) (.cons (.full 2) (.cons (.ptr 3 0) (.cons (.ptr 7 0) (.cons (.int .u64) (.cons (.int .i64) (.cons .bool .nil)))))))) true, .row (.many [.int .i64, .int .i64, .int .i64, .int .u64]) true, .row (.one (.int .i64)) true, .box (.cons (.fn 22 (.cons (.ptr 4 0) .nil)) (.cons (.full 5) (.cons (.full 6) .nil))) true, .box (.cons (.ptr 0 0) .nil) true, .row (.one (.int .i64)) true, .row (.one (.int .i64)) true, .box (.cons (.fn 24 (.cons (.ptr 4 0) .nil)) (.cons (.full 8) (.cons (.full 9) .nil))) true, .row (.one (.int .i64)) true, .row (.one (.int .i64)) true]
abbrev alts12 : List Alt := [(.tup (.cons (.agg (.cons (.int .i64) (.cons (.int .i64) (.cons (.int .i64) .nil)))) (.cons .bool (.cons (.int .i64) .nil))), [.box (.cons (.int .i64) (.cons (.full 10) (.cons (.full 11) (.cons (.ptr 3 0) (.cons (.ptr 7 0) (.cons (.int .u64) (.cons (.int .i64) (.cons .bool .nil)))))))) true, .gone, .gone, .box (.cons (.fn 22 (.cons (.ptr 4 0) .nil)) (.cons (.full 12) (.cons (.full 13) .nil))) true, .box (.cons (.ptr 0 0) .nil) true, .gone, .gone, .box (.cons (.fn 24 (.cons (.ptr 4 0) .nil)) (.cons (.full 14) (.cons (.full 15) .nil))) true, .gone, .gone, .row (.many [.int .i64, .int .i64, .int .i64, .int .u64]) true, .row (.one (.int .i64)) true, .row (.one (.int .i64)) true, .row (.one (.int .i64)) true, .row (.one (.int .i64)) true, .row (.one (.int .i64)) true])]
noncomputable def body12 : Code := match Try.f12.body with
  | some c => c
  | none => .skip
def F12 (k : Nat) : pin12.T → OPL.T os12 → Option (AT alts12)
  | ((), ((a1, (a2, (a3, ()))), ())), ((a4, ((), ((), ((), ((), (a5, (a6, (a7, ())))))))), (a8, (a9, ((((), ()), ((), ((), ()))), (((), ()), (a10, (a11, ((((), ()), ((), ((), ()))), (a12, (a13, ())))))))))) =>
    Option.bind
      (F26 ((), ())
        ((a4, (), (), (), (), a5, a6, a7, ()), a8, a9, (((), ()), (), (), ()), ((), ()), a10, a11, (((), ()), (), (), ()),
          a12, a13, ()))
      fun val =>
      if (!val.1) = true then
        some
          ((((0 : Int), (0 : Int), (0 : Int), ()), false, (1 : Int), ()), (a4, (), (), (), (), a5, a6, a7, ()), (), (),
            (((), ()), (), (), ()), ((), ()), (), (), (((), ()), (), (), ()), (), (), a8, a9, a10, a11, a12, a13, ())
      else
        if decide ((0 : Int) < (↑(List.length a9) : Int)) = true then
          if
              (0 : Int) ≤ IntKind.wrap IntKind.i64 ((↑(List.length a9) : Int) - (1 : Int)) ∧
                IntKind.wrap IntKind.i64 ((↑(List.length a9) : Int) - (1 : Int)) < (↑(List.length a9) : Int) then
            if Int.toNat (IntKind.wrap IntKind.i64 ((↑(List.length a9) : Int) - (1 : Int))) < List.length a9 then
              if
                  (0 : Int) ≤ IntKind.wrap IntKind.i64 ((↑(List.length a9) : Int) - (1 : Int)) ∧
                    IntKind.wrap IntKind.i64 ((↑(List.length a9) : Int) - (1 : Int)) ≤ (↑(List.length a9) : Int) then
                if
                    (0 : Int) ≤
                        List.getD a9 (Int.toNat (IntKind.wrap IntKind.i64 ((↑(List.length a9) : Int) - (1 : Int))))
                          (0 : Int) ∧
                      List.getD a9 (Int.toNat (IntKind.wrap IntKind.i64 ((↑(List.length a9) : Int) - (1 : Int))))
                          (0 : Int) <
                        (↑(List.length a8) : Int) then
                  if
                      Int.toNat
                          (List.getD a9 (Int.toNat (IntKind.wrap IntKind.i64 ((↑(List.length a9) : Int) - (1 : Int))))
                            (0 : Int)) <
                        List.length a8 then
                    Option.bind
                      ((F27b k)
                        ((),
                          List.getD a9 (Int.toNat (IntKind.wrap IntKind.i64 ((↑(List.length a9) : Int) - (1 : Int))))
                            (0 : Int),
                          ())
                        ((((), ()), (), (), ()), ((), ()),
                          (a4, (), (), (), (), IntKind.wrap IntKind.u64 (a5 + (1 : Int)), a6, a7, ()),
                          List.set a8
                            (Int.toNat
                              (List.getD a9 (Int.toNat (IntKind.wrap IntKind.i64 ((↑(List.length a9) : Int) - (1 : Int))))
                                (0 : Int)))
                            (a1, a2, a3, IntKind.wrap IntKind.u64 (a5 + (1 : Int))),
                          List.take
                            (Int.toNat (IntKind.wrap IntKind.i64 ((↑(List.length a9) : Int) - (1 : Int))) - (0 : Nat))
                            (List.drop (0 : Nat) a9),
                          (((), ()), (), (), ()), a12, a13, a10, a11, ()))
                      fun val =>
                      Option.bind
                        ((F27w k)
                          ((),
                            List.getD a9 (Int.toNat (IntKind.wrap IntKind.i64 ((↑(List.length a9) : Int) - (1 : Int))))
                              (0 : Int),
                            ())
                          ((((), ()), (), (), ()), ((), ()),
                            ((Prod.fst (Prod.snd (Prod.snd (Prod.snd val)))).1, (), (), (), (),
                              (Prod.snd
                                  (Prod.snd
                                    (Prod.snd (Prod.snd (Prod.snd (Prod.fst (Prod.snd (Prod.snd (Prod.snd val))))))))).1,
                              (Prod.snd
                                  (Prod.snd
                                    (Prod.snd
                                      (Prod.snd (Prod.snd (Prod.snd (Prod.fst (Prod.snd (Prod.snd (Prod.snd val)))))))))).1,
                              (Prod.snd
                                  (Prod.snd
                                    (Prod.snd
                                      (Prod.snd
                                        (Prod.snd
                                          (Prod.snd (Prod.snd (Prod.fst (Prod.snd (Prod.snd (Prod.snd val))))))))))).1,
                              ()),
                            (Prod.snd
                                (Prod.snd
                                  (Prod.snd
                                    (Prod.snd
                                      (Prod.snd
                                        (Prod.snd
                                          (Prod.snd
                                            (Prod.snd (Prod.snd (Prod.snd (Prod.snd (Prod.snd (Prod.snd val))))))))))))).1,
                            (Prod.snd
                                (Prod.snd
                                  (Prod.snd
                                    (Prod.snd
                                      (Prod.snd
                                        (Prod.snd
                                          (Prod.snd
                                            (Prod.snd
                                              (Prod.snd
                                                (Prod.snd (Prod.snd (Prod.snd (Prod.snd (Prod.snd val)))))))))))))).1,
                            (((), ()), (), (), ()),
                            (Prod.snd
                                (Prod.snd
                                  (Prod.snd
                                    (Prod.snd
                                      (Prod.snd
                                        (Prod.snd (Prod.snd (Prod.snd (Prod.snd (Prod.snd (Prod.snd val))))))))))).1,
                            (Prod.snd
                                (Prod.snd
                                  (Prod.snd
                                    (Prod.snd
                                      (Prod.snd
                                        (Prod.snd
                                          (Prod.snd (Prod.snd (Prod.snd (Prod.snd (Prod.snd (Prod.snd val)))))))))))).1,
                            (Prod.snd
                                (Prod.snd
                                  (Prod.snd
                                    (Prod.snd
                                      (Prod.snd
                                        (Prod.snd
                                          (Prod.snd
                                            (Prod.snd
                                              (Prod.snd
                                                (Prod.snd
                                                  (Prod.snd (Prod.snd (Prod.snd (Prod.snd (Prod.snd val))))))))))))))).1,
                            (Prod.snd
                                (Prod.snd
                                  (Prod.snd
                                    (Prod.snd
                                      (Prod.snd
                                        (Prod.snd
                                          (Prod.snd
                                            (Prod.snd
                                              (Prod.snd
                                                (Prod.snd
                                                  (Prod.snd
                                                    (Prod.snd (Prod.snd (Prod.snd (Prod.snd (Prod.snd val)))))))))))))))).1,
                            ()))
                        fun val =>
                        Option.bind
                          (F14 ((), ())
                            (((Prod.fst (Prod.snd (Prod.snd (Prod.snd val)))).1, (), (), (), (),
                                (Prod.snd
                                    (Prod.snd
                                      (Prod.snd (Prod.snd (Prod.snd (Prod.fst (Prod.snd (Prod.snd (Prod.snd val))))))))).1,
                                (Prod.snd
                                    (Prod.snd
                                      (Prod.snd
                                        (Prod.snd
                                          (Prod.snd (Prod.snd (Prod.fst (Prod.snd (Prod.snd (Prod.snd val)))))))))).1,
                                (Prod.snd
                                    (Prod.snd
                                      (Prod.snd
                                        (Prod.snd
                                          (Prod.snd
                                            (Prod.snd (Prod.snd (Prod.fst (Prod.snd (Prod.snd (Prod.snd val))))))))))).1,
                                ()),
                              (Prod.snd
                                  (Prod.snd
                                    (Prod.snd
                                      (Prod.snd
                                        (Prod.snd
                                          (Prod.snd
                                            (Prod.snd
                                              (Prod.snd
                                                (Prod.snd (Prod.snd (Prod.snd (Prod.snd (Prod.snd val))))))))))))).1,
                              (Prod.snd
                                  (Prod.snd
                                    (Prod.snd
                                      (Prod.snd
                                        (Prod.snd
                                          (Prod.snd
                                            (Prod.snd
                                              (Prod.snd
                                                (Prod.snd
                                                  (Prod.snd (Prod.snd (Prod.snd (Prod.snd (Prod.snd val)))))))))))))).1,
                              (((), ()), (), (), ()), ((), ()),
                              (Prod.snd
                                  (Prod.snd
                                    (Prod.snd
                                      (Prod.snd
                                        (Prod.snd
                                          (Prod.snd
                                            (Prod.snd
                                              (Prod.snd
                                                (Prod.snd
                                                  (Prod.snd
                                                    (Prod.snd (Prod.snd (Prod.snd (Prod.snd (Prod.snd val))))))))))))))).1,
                              (Prod.snd
                                  (Prod.snd
                                    (Prod.snd
                                      (Prod.snd
                                        (Prod.snd
                                          (Prod.snd
                                            (Prod.snd
                                              (Prod.snd
                                                (Prod.snd
                                                  (Prod.snd
                                                    (Prod.snd
                                                      (Prod.snd
                                                        (Prod.snd (Prod.snd (Prod.snd (Prod.snd val)))))))))))))))).1,
                              (((), ()), (), (), ()),
                              (Prod.snd
                                  (Prod.snd
                                    (Prod.snd
                                      (Prod.snd
                                        (Prod.snd
                                          (Prod.snd (Prod.snd (Prod.snd (Prod.snd (Prod.snd (Prod.snd val))))))))))).1,
                              (Prod.snd
                                  (Prod.snd
                                    (Prod.snd
                                      (Prod.snd
                                        (Prod.snd
                                          (Prod.snd
                                            (Prod.snd (Prod.snd (Prod.snd (Prod.snd (Prod.snd (Prod.snd val)))))))))))).1,
                              ()))
                          fun val_1 =>
                          if decide (val_1.1 ≤ (Prod.fst (Prod.snd (Prod.snd (Prod.snd val)))).1) = true then
                            some
                              ((((0 : Int), (0 : Int), (0 : Int), ()), false, (0 : Int), ()),
                                ((Prod.fst (Prod.snd (Prod.snd (Prod.snd val)))).1, (), (), (), (),
                                  (Prod.snd
                                      (Prod.snd
                                        (Prod.snd
                                          (Prod.snd (Prod.snd (Prod.fst (Prod.snd (Prod.snd (Prod.snd val))))))))).1,
                                  (Prod.snd
                                      (Prod.snd
                                        (Prod.snd
                                          (Prod.snd
                                            (Prod.snd (Prod.snd (Prod.fst (Prod.snd (Prod.snd (Prod.snd val)))))))))).1,
                                  (Prod.snd
                                      (Prod.snd
                                        (Prod.snd
                                          (Prod.snd
                                            (Prod.snd
                                              (Prod.snd (Prod.snd (Prod.fst (Prod.snd (Prod.snd (Prod.snd val))))))))))).1,
                                  ()),
                                (), (), (((), ()), (), (), ()), ((), ()), (), (), (((), ()), (), (), ()), (), (),
                                (Prod.snd
                                    (Prod.snd
                                      (Prod.snd
                                        (Prod.snd
                                          (Prod.snd
                                            (Prod.snd
                                              (Prod.snd
                                                (Prod.snd
                                                  (Prod.snd (Prod.snd (Prod.snd (Prod.snd (Prod.snd val))))))))))))).1,
                                (Prod.snd
                                    (Prod.snd
                                      (Prod.snd
                                        (Prod.snd
                                          (Prod.snd
                                            (Prod.snd
                                              (Prod.snd
                                                (Prod.snd
                                                  (Prod.snd
                                                    (Prod.snd (Prod.snd (Prod.snd (Prod.snd (Prod.snd val)))))))))))))).1,
                                (Prod.snd
                                    (Prod.snd
                                      (Prod.snd
                                        (Prod.snd
                                          (Prod.snd
                                            (Prod.snd
                                              (Prod.snd
                                                (Prod.snd
                                                  (Prod.snd
                                                    (Prod.snd
                                                      (Prod.snd
                                                        (Prod.snd (Prod.snd (Prod.snd (Prod.snd val))))))))))))))).1,
                                (Prod.snd
                                    (Prod.snd
                                      (Prod.snd
                                        (Prod.snd
                                          (Prod.snd
                                            (Prod.snd
                                              (Prod.snd
                                                (Prod.snd
                                                  (Prod.snd
                                                    (Prod.snd
                                                      (Prod.snd
                                                        (Prod.snd
                                                          (Prod.snd (Prod.snd (Prod.snd (Prod.snd val)))))))))))))))).1,
                                (Prod.snd
                                    (Prod.snd
                                      (Prod.snd
                                        (Prod.snd
                                          (Prod.snd
                                            (Prod.snd (Prod.snd (Prod.snd (Prod.snd (Prod.snd (Prod.snd val))))))))))).1,
                                (Prod.snd
                                    (Prod.snd
                                      (Prod.snd
                                        (Prod.snd
                                          (Prod.snd
                                            (Prod.snd
                                              (Prod.snd (Prod.snd (Prod.snd (Prod.snd (Prod.snd (Prod.snd val)))))))))))).1,
                                ())
                          else
                            if
                                (0 : Int) ≤ (0 : Int) ∧
                                  (0 : Int) <
                                    (↑(List.length
                                          (Prod.snd
                                              (Prod.snd
                                                (Prod.snd
                                                  (Prod.snd
                                                    (Prod.snd
                                                      (Prod.snd
                                                        (Prod.snd
                                                          (Prod.snd (Prod.snd (Prod.snd (Prod.snd val))))))))))).1) :
                                      Int) then
                              if
                                  (0 : Nat) <
                                    List.length
                                      (Prod.snd
                                          (Prod.snd
                                            (Prod.snd
                                              (Prod.snd
                                                (Prod.snd
                                                  (Prod.snd
                                                    (Prod.snd (Prod.snd (Prod.snd (Prod.snd (Prod.snd val))))))))))).1 then
                                Option.bind
                                  ((F28 k)
                                    ((),
                                      List.getD
                                        (Prod.snd
                                            (Prod.snd
                                              (Prod.snd
                                                (Prod.snd
                                                  (Prod.snd
                                                    (Prod.snd
                                                      (Prod.snd (Prod.snd (Prod.snd (Prod.snd (Prod.snd val))))))))))).1
                                        (0 : Nat) (0 : Int),
                                      ())
                                    (((Prod.fst (Prod.snd (Prod.snd (Prod.snd val)))).1, (), (), (), (),
                                        (Prod.snd
                                            (Prod.snd
                                              (Prod.snd
                                                (Prod.snd (Prod.snd (Prod.fst (Prod.snd (Prod.snd (Prod.snd val))))))))).1,
                                        (Prod.snd
                                            (Prod.snd
                                              (Prod.snd
                                                (Prod.snd
                                                  (Prod.snd
                                                    (Prod.snd (Prod.fst (Prod.snd (Prod.snd (Prod.snd val)))))))))).1,
                                        (Prod.snd
                                            (Prod.snd
                                              (Prod.snd
                                                (Prod.snd
                                                  (Prod.snd
                                                    (Prod.snd
                                                      (Prod.snd (Prod.fst (Prod.snd (Prod.snd (Prod.snd val))))))))))).1,
                                        ()),
                                      (Prod.snd
                                          (Prod.snd
                                            (Prod.snd
                                              (Prod.snd
                                                (Prod.snd
                                                  (Prod.snd
                                                    (Prod.snd
                                                      (Prod.snd
                                                        (Prod.snd
                                                          (Prod.snd (Prod.snd (Prod.snd (Prod.snd val))))))))))))).1,
                                      (Prod.snd
                                          (Prod.snd
                                            (Prod.snd
                                              (Prod.snd
                                                (Prod.snd
                                                  (Prod.snd
                                                    (Prod.snd
                                                      (Prod.snd
                                                        (Prod.snd
                                                          (Prod.snd
                                                            (Prod.snd (Prod.snd (Prod.snd (Prod.snd val)))))))))))))).1,
                                      (((), ()), (), (), ()), ((), ()),
                                      (Prod.snd
                                          (Prod.snd
                                            (Prod.snd
                                              (Prod.snd
                                                (Prod.snd
                                                  (Prod.snd
                                                    (Prod.snd
                                                      (Prod.snd
                                                        (Prod.snd
                                                          (Prod.snd
                                                            (Prod.snd
                                                              (Prod.snd (Prod.snd (Prod.snd (Prod.snd val))))))))))))))).1,
                                      (Prod.snd
                                          (Prod.snd
                                            (Prod.snd
                                              (Prod.snd
                                                (Prod.snd
                                                  (Prod.snd
                                                    (Prod.snd
                                                      (Prod.snd
                                                        (Prod.snd
                                                          (Prod.snd
                                                            (Prod.snd
                                                              (Prod.snd
                                                                (Prod.snd
                                                                  (Prod.snd (Prod.snd (Prod.snd val)))))))))))))))).1,
                                      (((), ()), (), (), ()),
                                      (Prod.snd
                                          (Prod.snd
                                            (Prod.snd
                                              (Prod.snd
                                                (Prod.snd
                                                  (Prod.snd
                                                    (Prod.snd (Prod.snd (Prod.snd (Prod.snd (Prod.snd val))))))))))).1,
                                      (Prod.snd
                                          (Prod.snd
                                            (Prod.snd
                                              (Prod.snd
                                                (Prod.snd
                                                  (Prod.snd
                                                    (Prod.snd
                                                      (Prod.snd (Prod.snd (Prod.snd (Prod.snd (Prod.snd val)))))))))))).1,
                                      ()))
                                  fun val =>
                                  if
                                      (!(Prod.snd
                                              (Prod.snd
                                                (Prod.snd
                                                  (Prod.snd
                                                    (Prod.snd (Prod.snd (Prod.snd (Prod.fst (Prod.snd val))))))))).1) =
                                        true then
                                    some
                                      ((((Prod.fst val).1, (Prod.snd (Prod.fst val)).1,
                                            (Prod.snd (Prod.snd (Prod.fst val))).1, ()),
                                          true, (0 : Int), ()),
                                        ((Prod.fst (Prod.snd val)).1, (), (), (), (),
                                          (Prod.snd
                                              (Prod.snd (Prod.snd (Prod.snd (Prod.snd (Prod.fst (Prod.snd val))))))).1,
                                          (Prod.fst val).1, true, ()),
                                        (), (), (((), ()), (), (), ()), ((), ()), (), (), (((), ()), (), (), ()), (), (),
                                        (Prod.snd
                                            (Prod.snd
                                              (Prod.snd
                                                (Prod.snd
                                                  (Prod.snd
                                                    (Prod.snd
                                                      (Prod.snd (Prod.snd (Prod.snd (Prod.snd (Prod.snd val))))))))))).1,
                                        (Prod.snd
                                            (Prod.snd
                                              (Prod.snd
                                                (Prod.snd
                                                  (Prod.snd
                                                    (Prod.snd
                                                      (Prod.snd
                                                        (Prod.snd (Prod.snd (Prod.snd (Prod.snd (Prod.snd val)))))))))))).1,
                                        (Prod.snd
                                            (Prod.snd
                                              (Prod.snd
                                                (Prod.snd
                                                  (Prod.snd
                                                    (Prod.snd
                                                      (Prod.snd
                                                        (Prod.snd
                                                          (Prod.snd
                                                            (Prod.snd (Prod.snd (Prod.snd (Prod.snd val))))))))))))).1,
                                        (Prod.snd
                                            (Prod.snd
                                              (Prod.snd
                                                (Prod.snd
                                                  (Prod.snd
                                                    (Prod.snd
                                                      (Prod.snd
                                                        (Prod.snd
                                                          (Prod.snd
                                                            (Prod.snd
                                                              (Prod.snd (Prod.snd (Prod.snd (Prod.snd val)))))))))))))).1,
                                        (Prod.snd
                                            (Prod.snd
                                              (Prod.snd
                                                (Prod.snd
                                                  (Prod.snd
                                                    (Prod.snd
                                                      (Prod.snd
                                                        (Prod.snd
                                                          (Prod.snd
                                                            (Prod.snd
                                                              (Prod.snd
                                                                (Prod.snd
                                                                  (Prod.snd (Prod.snd (Prod.snd val))))))))))))))).1,
                                        (Prod.snd
                                            (Prod.snd
                                              (Prod.snd
                                                (Prod.snd
                                                  (Prod.snd
                                                    (Prod.snd
                                                      (Prod.snd
                                                        (Prod.snd
                                                          (Prod.snd
                                                            (Prod.snd
                                                              (Prod.snd
                                                                (Prod.snd
                                                                  (Prod.snd
                                                                    (Prod.snd (Prod.snd (Prod.snd val)))))))))))))))).1,
                                        ())
                                  else
                                    if
                                        decide
                                            ((Prod.snd
                                                  (Prod.snd
                                                    (Prod.snd
                                                      (Prod.snd (Prod.snd (Prod.snd (Prod.fst (Prod.snd val)))))))).1 <
                                              (Prod.fst val).1) =
                                          true then
                                      some
                                        ((((Prod.fst val).1, (Prod.snd (Prod.fst val)).1,
                                              (Prod.snd (Prod.snd (Prod.fst val))).1, ()),
                                            true, (0 : Int), ()),
                                          ((Prod.fst (Prod.snd val)).1, (), (), (), (),
                                            (Prod.snd
                                                (Prod.snd (Prod.snd (Prod.snd (Prod.snd (Prod.fst (Prod.snd val))))))).1,
                                            (Prod.fst val).1, true, ()),
                                          (), (), (((), ()), (), (), ()), ((), ()), (), (), (((), ()), (), (), ()), (), (),
                                          (Prod.snd
                                              (Prod.snd
                                                (Prod.snd
                                                  (Prod.snd
                                                    (Prod.snd
                                                      (Prod.snd
                                                        (Prod.snd (Prod.snd (Prod.snd (Prod.snd (Prod.snd val))))))))))).1,
                                          (Prod.snd
                                              (Prod.snd
                                                (Prod.snd
                                                  (Prod.snd
                                                    (Prod.snd
                                                      (Prod.snd
                                                        (Prod.snd
                                                          (Prod.snd
                                                            (Prod.snd (Prod.snd (Prod.snd (Prod.snd val)))))))))))).1,
                                          (Prod.snd
                                              (Prod.snd
                                                (Prod.snd
                                                  (Prod.snd
                                                    (Prod.snd
                                                      (Prod.snd
                                                        (Prod.snd
                                                          (Prod.snd
                                                            (Prod.snd
                                                              (Prod.snd (Prod.snd (Prod.snd (Prod.snd val))))))))))))).1,
                                          (Prod.snd
                                              (Prod.snd
                                                (Prod.snd
                                                  (Prod.snd
                                                    (Prod.snd
                                                      (Prod.snd
                                                        (Prod.snd
                                                          (Prod.snd
                                                            (Prod.snd
                                                              (Prod.snd
                                                                (Prod.snd (Prod.snd (Prod.snd (Prod.snd val)))))))))))))).1,
                                          (Prod.snd
                                              (Prod.snd
                                                (Prod.snd
                                                  (Prod.snd
                                                    (Prod.snd
                                                      (Prod.snd
                                                        (Prod.snd
                                                          (Prod.snd
                                                            (Prod.snd
                                                              (Prod.snd
                                                                (Prod.snd
                                                                  (Prod.snd
                                                                    (Prod.snd (Prod.snd (Prod.snd val))))))))))))))).1,
                                          (Prod.snd
                                              (Prod.snd
                                                (Prod.snd
                                                  (Prod.snd
                                                    (Prod.snd
                                                      (Prod.snd
                                                        (Prod.snd
                                                          (Prod.snd
                                                            (Prod.snd
                                                              (Prod.snd
                                                                (Prod.snd
                                                                  (Prod.snd
                                                                    (Prod.snd
                                                                      (Prod.snd (Prod.snd (Prod.snd val)))))))))))))))).1,
                                          ())
                                    else
                                      some
                                        ((((Prod.fst val).1, (Prod.snd (Prod.fst val)).1,
                                              (Prod.snd (Prod.snd (Prod.fst val))).1, ()),
                                            true, (0 : Int), ()),
                                          ((Prod.fst (Prod.snd val)).1, (), (), (), (),
                                            (Prod.snd
                                                (Prod.snd (Prod.snd (Prod.snd (Prod.snd (Prod.fst (Prod.snd val))))))).1,
                                            (Prod.snd
                                                (Prod.snd
                                                  (Prod.snd (Prod.snd (Prod.snd (Prod.snd (Prod.fst (Prod.snd val)))))))).1,
                                            (Prod.snd
                                                (Prod.snd
                                                  (Prod.snd
                                                    (Prod.snd
                                                      (Prod.snd (Prod.snd (Prod.snd (Prod.fst (Prod.snd val))))))))).1,
                                            ()),
                                          (), (), (((), ()), (), (), ()), ((), ()), (), (), (((), ()), (), (), ()), (), (),
                                          (Prod.snd
                                              (Prod.snd
                                                (Prod.snd
                                                  (Prod.snd
                                                    (Prod.snd
                                                      (Prod.snd
                                                        (Prod.snd (Prod.snd (Prod.snd (Prod.snd (Prod.snd val))))))))))).1,
                                          (Prod.snd
                                              (Prod.snd
                                                (Prod.snd
                                                  (Prod.snd
                                                    (Prod.snd
                                                      (Prod.snd
                                                        (Prod.snd
                                                          (Prod.snd
                                                            (Prod.snd (Prod.snd (Prod.snd (Prod.snd val)))))))))))).1,
                                          (Prod.snd
                                              (Prod.snd
                                                (Prod.snd
                                                  (Prod.snd
                                                    (Prod.snd
                                                      (Prod.snd
                                                        (Prod.snd
                                                          (Prod.snd
                                                            (Prod.snd
                                                              (Prod.snd (Prod.snd (Prod.snd (Prod.snd val))))))))))))).1,
                                          (Prod.snd
                                              (Prod.snd
                                                (Prod.snd
                                                  (Prod.snd
                                                    (Prod.snd
                                                      (Prod.snd
                                                        (Prod.snd
                                                          (Prod.snd
                                                            (Prod.snd
                                                              (Prod.snd
                                                                (Prod.snd (Prod.snd (Prod.snd (Prod.snd val)))))))))))))).1,
                                          (Prod.snd
                                              (Prod.snd
                                                (Prod.snd
                                                  (Prod.snd
                                                    (Prod.snd
                                                      (Prod.snd
                                                        (Prod.snd
                                                          (Prod.snd
                                                            (Prod.snd
                                                              (Prod.snd
                                                                (Prod.snd
                                                                  (Prod.snd
                                                                    (Prod.snd (Prod.snd (Prod.snd val))))))))))))))).1,
                                          (Prod.snd
                                              (Prod.snd
                                                (Prod.snd
                                                  (Prod.snd
                                                    (Prod.snd
                                                      (Prod.snd
                                                        (Prod.snd
                                                          (Prod.snd
                                                            (Prod.snd
                                                              (Prod.snd
                                                                (Prod.snd
                                                                  (Prod.snd
                                                                    (Prod.snd
                                                                      (Prod.snd (Prod.snd (Prod.snd val)))))))))))))))).1,
                                          ())
                              else none
                            else none
                  else none
                else none
              else none
            else none
          else none
        else
          if (List.length a8 + (1 : Nat)) * (32 : Nat) ≤ (140737488355328 : Nat) then
            Option.bind
              ((F27b k) ((), (↑(List.length a8) : Int), ())
                ((((), ()), (), (), ()), ((), ()),
                  (a4, (), (), (), (), IntKind.wrap IntKind.u64 (a5 + (1 : Int)), a6, a7, ()),
                  a8 ++ [(a1, a2, a3, IntKind.wrap IntKind.u64 (a5 + (1 : Int)))], a9, (((), ()), (), (), ()), a12, a13,
                  a10, a11, ()))
              fun val =>
              Option.bind
                ((F27w k) ((), (↑(List.length a8) : Int), ())
                  ((((), ()), (), (), ()), ((), ()),
                    ((Prod.fst (Prod.snd (Prod.snd (Prod.snd val)))).1, (), (), (), (),
                      (Prod.snd
                          (Prod.snd (Prod.snd (Prod.snd (Prod.snd (Prod.fst (Prod.snd (Prod.snd (Prod.snd val))))))))).1,
                      (Prod.snd
                          (Prod.snd
                            (Prod.snd (Prod.snd (Prod.snd (Prod.snd (Prod.fst (Prod.snd (Prod.snd (Prod.snd val)))))))))).1,
                      (Prod.snd
                          (Prod.snd
                            (Prod.snd
                              (Prod.snd
                                (Prod.snd (Prod.snd (Prod.snd (Prod.fst (Prod.snd (Prod.snd (Prod.snd val))))))))))).1,
                      ()),
                    (Prod.snd
                        (Prod.snd
                          (Prod.snd
                            (Prod.snd
                              (Prod.snd
                                (Prod.snd
                                  (Prod.snd (Prod.snd (Prod.snd (Prod.snd (Prod.snd (Prod.snd (Prod.snd val))))))))))))).1,
                    (Prod.snd
                        (Prod.snd
                          (Prod.snd
                            (Prod.snd
                              (Prod.snd
                                (Prod.snd
                                  (Prod.snd
                                    (Prod.snd
                                      (Prod.snd (Prod.snd (Prod.snd (Prod.snd (Prod.snd (Prod.snd val)))))))))))))).1,
                    (((), ()), (), (), ()),
                    (Prod.snd
                        (Prod.snd
                          (Prod.snd
                            (Prod.snd
                              (Prod.snd (Prod.snd (Prod.snd (Prod.snd (Prod.snd (Prod.snd (Prod.snd val))))))))))).1,
                    (Prod.snd
                        (Prod.snd
                          (Prod.snd
                            (Prod.snd
                              (Prod.snd
                                (Prod.snd (Prod.snd (Prod.snd (Prod.snd (Prod.snd (Prod.snd (Prod.snd val)))))))))))).1,
                    (Prod.snd
                        (Prod.snd
                          (Prod.snd
                            (Prod.snd
                              (Prod.snd
                                (Prod.snd
                                  (Prod.snd
                                    (Prod.snd
                                      (Prod.snd
                                        (Prod.snd (Prod.snd (Prod.snd (Prod.snd (Prod.snd (Prod.snd val))))))))))))))).1,
                    (Prod.snd
                        (Prod.snd
                          (Prod.snd
                            (Prod.snd
                              (Prod.snd
                                (Prod.snd
                                  (Prod.snd
                                    (Prod.snd
                                      (Prod.snd
                                        (Prod.snd
                                          (Prod.snd (Prod.snd (Prod.snd (Prod.snd (Prod.snd (Prod.snd val)))))))))))))))).1,
                    ()))
                fun val =>
                Option.bind
                  (F14 ((), ())
                    (((Prod.fst (Prod.snd (Prod.snd (Prod.snd val)))).1, (), (), (), (),
                        (Prod.snd
                            (Prod.snd (Prod.snd (Prod.snd (Prod.snd (Prod.fst (Prod.snd (Prod.snd (Prod.snd val))))))))).1,
                        (Prod.snd
                            (Prod.snd
                              (Prod.snd
                                (Prod.snd (Prod.snd (Prod.snd (Prod.fst (Prod.snd (Prod.snd (Prod.snd val)))))))))).1,
                        (Prod.snd
                            (Prod.snd
                              (Prod.snd
                                (Prod.snd
                                  (Prod.snd (Prod.snd (Prod.snd (Prod.fst (Prod.snd (Prod.snd (Prod.snd val))))))))))).1,
                        ()),
                      (Prod.snd
                          (Prod.snd
                            (Prod.snd
                              (Prod.snd
                                (Prod.snd
                                  (Prod.snd
                                    (Prod.snd
                                      (Prod.snd (Prod.snd (Prod.snd (Prod.snd (Prod.snd (Prod.snd val))))))))))))).1,
                      (Prod.snd
                          (Prod.snd
                            (Prod.snd
                              (Prod.snd
                                (Prod.snd
                                  (Prod.snd
                                    (Prod.snd
                                      (Prod.snd
                                        (Prod.snd (Prod.snd (Prod.snd (Prod.snd (Prod.snd (Prod.snd val)))))))))))))).1,
                      (((), ()), (), (), ()), ((), ()),
                      (Prod.snd
                          (Prod.snd
                            (Prod.snd
                              (Prod.snd
                                (Prod.snd
                                  (Prod.snd
                                    (Prod.snd
                                      (Prod.snd
                                        (Prod.snd
                                          (Prod.snd (Prod.snd (Prod.snd (Prod.snd (Prod.snd (Prod.snd val))))))))))))))).1,
                      (Prod.snd
                          (Prod.snd
                            (Prod.snd
                              (Prod.snd
                                (Prod.snd
                                  (Prod.snd
                                    (Prod.snd
                                      (Prod.snd
                                        (Prod.snd
                                          (Prod.snd
                                            (Prod.snd
                                              (Prod.snd (Prod.snd (Prod.snd (Prod.snd (Prod.snd val)))))))))))))))).1,
                      (((), ()), (), (), ()),
                      (Prod.snd
                          (Prod.snd
                            (Prod.snd
                              (Prod.snd
                                (Prod.snd (Prod.snd (Prod.snd (Prod.snd (Prod.snd (Prod.snd (Prod.snd val))))))))))).1,
                      (Prod.snd
                          (Prod.snd
                            (Prod.snd
                              (Prod.snd
                                (Prod.snd
                                  (Prod.snd (Prod.snd (Prod.snd (Prod.snd (Prod.snd (Prod.snd (Prod.snd val)))))))))))).1,
                      ()))
                  fun val_1 =>
                  if decide (val_1.1 ≤ (Prod.fst (Prod.snd (Prod.snd (Prod.snd val)))).1) = true then
                    some
                      ((((0 : Int), (0 : Int), (0 : Int), ()), false, (0 : Int), ()),
                        ((Prod.fst (Prod.snd (Prod.snd (Prod.snd val)))).1, (), (), (), (),
                          (Prod.snd
                              (Prod.snd
                                (Prod.snd (Prod.snd (Prod.snd (Prod.fst (Prod.snd (Prod.snd (Prod.snd val))))))))).1,
                          (Prod.snd
                              (Prod.snd
                                (Prod.snd
                                  (Prod.snd (Prod.snd (Prod.snd (Prod.fst (Prod.snd (Prod.snd (Prod.snd val)))))))))).1,
                          (Prod.snd
                              (Prod.snd
                                (Prod.snd
                                  (Prod.snd
                                    (Prod.snd (Prod.snd (Prod.snd (Prod.fst (Prod.snd (Prod.snd (Prod.snd val))))))))))).1,
                          ()),
                        (), (), (((), ()), (), (), ()), ((), ()), (), (), (((), ()), (), (), ()), (), (),
                        (Prod.snd
                            (Prod.snd
                              (Prod.snd
                                (Prod.snd
                                  (Prod.snd
                                    (Prod.snd
                                      (Prod.snd
                                        (Prod.snd (Prod.snd (Prod.snd (Prod.snd (Prod.snd (Prod.snd val))))))))))))).1,
                        (Prod.snd
                            (Prod.snd
                              (Prod.snd
                                (Prod.snd
                                  (Prod.snd
                                    (Prod.snd
                                      (Prod.snd
                                        (Prod.snd
                                          (Prod.snd (Prod.snd (Prod.snd (Prod.snd (Prod.snd (Prod.snd val)))))))))))))).1,
                        (Prod.snd
                            (Prod.snd
                              (Prod.snd
                                (Prod.snd
                                  (Prod.snd
                                    (Prod.snd
                                      (Prod.snd
                                        (Prod.snd
                                          (Prod.snd
                                            (Prod.snd
                                              (Prod.snd (Prod.snd (Prod.snd (Prod.snd (Prod.snd val))))))))))))))).1,
                        (Prod.snd
                            (Prod.snd
                              (Prod.snd
                                (Prod.snd
                                  (Prod.snd
                                    (Prod.snd
                                      (Prod.snd
                                        (Prod.snd
                                          (Prod.snd
                                            (Prod.snd
                                              (Prod.snd
                                                (Prod.snd (Prod.snd (Prod.snd (Prod.snd (Prod.snd val)))))))))))))))).1,
                        (Prod.snd
                            (Prod.snd
                              (Prod.snd
                                (Prod.snd
                                  (Prod.snd (Prod.snd (Prod.snd (Prod.snd (Prod.snd (Prod.snd (Prod.snd val))))))))))).1,
                        (Prod.snd
                            (Prod.snd
                              (Prod.snd
                                (Prod.snd
                                  (Prod.snd
                                    (Prod.snd (Prod.snd (Prod.snd (Prod.snd (Prod.snd (Prod.snd (Prod.snd val)))))))))))).1,
                        ())
                  else
                    if
                        (0 : Int) ≤ (0 : Int) ∧
                          (0 : Int) <
                            (↑(List.length
                                  (Prod.snd
                                      (Prod.snd
                                        (Prod.snd
                                          (Prod.snd
                                            (Prod.snd
                                              (Prod.snd
                                                (Prod.snd (Prod.snd (Prod.snd (Prod.snd (Prod.snd val))))))))))).1) :
                              Int) then
                      if
                          (0 : Nat) <
                            List.length
                              (Prod.snd
                                  (Prod.snd
                                    (Prod.snd
                                      (Prod.snd
                                        (Prod.snd
                                          (Prod.snd (Prod.snd (Prod.snd (Prod.snd (Prod.snd (Prod.snd val))))))))))).1 then
                        Option.bind
                          ((F28 k)
                            ((),
                              List.getD
                                (Prod.snd
                                    (Prod.snd
                                      (Prod.snd
                                        (Prod.snd
                                          (Prod.snd
                                            (Prod.snd (Prod.snd (Prod.snd (Prod.snd (Prod.snd (Prod.snd val))))))))))).1
                                (0 : Nat) (0 : Int),
                              ())
                            (((Prod.fst (Prod.snd (Prod.snd (Prod.snd val)))).1, (), (), (), (),
                                (Prod.snd
                                    (Prod.snd
                                      (Prod.snd (Prod.snd (Prod.snd (Prod.fst (Prod.snd (Prod.snd (Prod.snd val))))))))).1,
                                (Prod.snd
                                    (Prod.snd
                                      (Prod.snd
                                        (Prod.snd
                                          (Prod.snd (Prod.snd (Prod.fst (Prod.snd (Prod.snd (Prod.snd val)))))))))).1,
                                (Prod.snd
                                    (Prod.snd
                                      (Prod.snd
                                        (Prod.snd
                                          (Prod.snd
                                            (Prod.snd (Prod.snd (Prod.fst (Prod.snd (Prod.snd (Prod.snd val))))))))))).1,
                                ()),
                              (Prod.snd
                                  (Prod.snd
                                    (Prod.snd
                                      (Prod.snd
                                        (Prod.snd
                                          (Prod.snd
                                            (Prod.snd
                                              (Prod.snd
                                                (Prod.snd (Prod.snd (Prod.snd (Prod.snd (Prod.snd val))))))))))))).1,
                              (Prod.snd
                                  (Prod.snd
                                    (Prod.snd
                                      (Prod.snd
                                        (Prod.snd
                                          (Prod.snd
                                            (Prod.snd
                                              (Prod.snd
                                                (Prod.snd
                                                  (Prod.snd (Prod.snd (Prod.snd (Prod.snd (Prod.snd val)))))))))))))).1,
                              (((), ()), (), (), ()), ((), ()),
                              (Prod.snd
                                  (Prod.snd
                                    (Prod.snd
                                      (Prod.snd
                                        (Prod.snd
                                          (Prod.snd
                                            (Prod.snd
                                              (Prod.snd
                                                (Prod.snd
                                                  (Prod.snd
                                                    (Prod.snd (Prod.snd (Prod.snd (Prod.snd (Prod.snd val))))))))))))))).1,
                              (Prod.snd
                                  (Prod.snd
                                    (Prod.snd
                                      (Prod.snd
                                        (Prod.snd
                                          (Prod.snd
                                            (Prod.snd
                                              (Prod.snd
                                                (Prod.snd
                                                  (Prod.snd
                                                    (Prod.snd
                                                      (Prod.snd
                                                        (Prod.snd (Prod.snd (Prod.snd (Prod.snd val)))))))))))))))).1,
                              (((), ()), (), (), ()),
                              (Prod.snd
                                  (Prod.snd
                                    (Prod.snd
                                      (Prod.snd
                                        (Prod.snd
                                          (Prod.snd (Prod.snd (Prod.snd (Prod.snd (Prod.snd (Prod.snd val))))))))))).1,
                              (Prod.snd
                                  (Prod.snd
                                    (Prod.snd
                                      (Prod.snd
                                        (Prod.snd
                                          (Prod.snd
                                            (Prod.snd (Prod.snd (Prod.snd (Prod.snd (Prod.snd (Prod.snd val)))))))))))).1,
                              ()))
                          fun val =>
                          if
                              (!(Prod.snd
                                      (Prod.snd
                                        (Prod.snd
                                          (Prod.snd (Prod.snd (Prod.snd (Prod.snd (Prod.fst (Prod.snd val))))))))).1) =
                                true then
                            some
                              ((((Prod.fst val).1, (Prod.snd (Prod.fst val)).1, (Prod.snd (Prod.snd (Prod.fst val))).1, ()),
                                  true, (0 : Int), ()),
                                ((Prod.fst (Prod.snd val)).1, (), (), (), (),
                                  (Prod.snd (Prod.snd (Prod.snd (Prod.snd (Prod.snd (Prod.fst (Prod.snd val))))))).1,
                                  (Prod.fst val).1, true, ()),
                                (), (), (((), ()), (), (), ()), ((), ()), (), (), (((), ()), (), (), ()), (), (),
                                (Prod.snd
                                    (Prod.snd
                                      (Prod.snd
                                        (Prod.snd
                                          (Prod.snd
                                            (Prod.snd (Prod.snd (Prod.snd (Prod.snd (Prod.snd (Prod.snd val))))))))))).1,
                                (Prod.snd
                                    (Prod.snd
                                      (Prod.snd
                                        (Prod.snd
                                          (Prod.snd
                                            (Prod.snd
                                              (Prod.snd (Prod.snd (Prod.snd (Prod.snd (Prod.snd (Prod.snd val)))))))))))).1,
                                (Prod.snd
                                    (Prod.snd
                                      (Prod.snd
                                        (Prod.snd
                                          (Prod.snd
                                            (Prod.snd
                                              (Prod.snd
                                                (Prod.snd
                                                  (Prod.snd (Prod.snd (Prod.snd (Prod.snd (Prod.snd val))))))))))))).1,
                                (Prod.snd
                                    (Prod.snd
                                      (Prod.snd
                                        (Prod.snd
                                          (Prod.snd
                                            (Prod.snd
                                              (Prod.snd
                                                (Prod.snd
                                                  (Prod.snd
                                                    (Prod.snd (Prod.snd (Prod.snd (Prod.snd (Prod.snd val)))))))))))))).1,
                                (Prod.snd
                                    (Prod.snd
                                      (Prod.snd
                                        (Prod.snd
                                          (Prod.snd
                                            (Prod.snd
                                              (Prod.snd
                                                (Prod.snd
                                                  (Prod.snd
                                                    (Prod.snd
                                                      (Prod.snd
                                                        (Prod.snd (Prod.snd (Prod.snd (Prod.snd val))))))))))))))).1,
                                (Prod.snd
                                    (Prod.snd
                                      (Prod.snd
                                        (Prod.snd
                                          (Prod.snd
                                            (Prod.snd
                                              (Prod.snd
                                                (Prod.snd
                                                  (Prod.snd
                                                    (Prod.snd
                                                      (Prod.snd
                                                        (Prod.snd
                                                          (Prod.snd (Prod.snd (Prod.snd (Prod.snd val)))))))))))))))).1,
                                ())
                          else
                            if
                                decide
                                    ((Prod.snd
                                          (Prod.snd
                                            (Prod.snd (Prod.snd (Prod.snd (Prod.snd (Prod.fst (Prod.snd val)))))))).1 <
                                      (Prod.fst val).1) =
                                  true then
                              some
                                ((((Prod.fst val).1, (Prod.snd (Prod.fst val)).1, (Prod.snd (Prod.snd (Prod.fst val))).1,
                                      ()),
                                    true, (0 : Int), ()),
                                  ((Prod.fst (Prod.snd val)).1, (), (), (), (),
                                    (Prod.snd (Prod.snd (Prod.snd (Prod.snd (Prod.snd (Prod.fst (Prod.snd val))))))).1,
                                    (Prod.fst val).1, true, ()),
                                  (), (), (((), ()), (), (), ()), ((), ()), (), (), (((), ()), (), (), ()), (), (),
                                  (Prod.snd
                                      (Prod.snd
                                        (Prod.snd
                                          (Prod.snd
                                            (Prod.snd
                                              (Prod.snd (Prod.snd (Prod.snd (Prod.snd (Prod.snd (Prod.snd val))))))))))).1,
                                  (Prod.snd
                                      (Prod.snd
                                        (Prod.snd
                                          (Prod.snd
                                            (Prod.snd
                                              (Prod.snd
                                                (Prod.snd
                                                  (Prod.snd (Prod.snd (Prod.snd (Prod.snd (Prod.snd val)))))))))))).1,
                                  (Prod.snd
                                      (Prod.snd
                                        (Prod.snd
                                          (Prod.snd
                                            (Prod.snd
                                              (Prod.snd
                                                (Prod.snd
                                                  (Prod.snd
                                                    (Prod.snd (Prod.snd (Prod.snd (Prod.snd (Prod.snd val))))))))))))).1,
                                  (Prod.snd
                                      (Prod.snd
                                        (Prod.snd
                                          (Prod.snd
                                            (Prod.snd
                                              (Prod.snd
                                                (Prod.snd
                                                  (Prod.snd
                                                    (Prod.snd
                                                      (Prod.snd (Prod.snd (Prod.snd (Prod.snd (Prod.snd val)))))))))))))).1,
                                  (Prod.snd
                                      (Prod.snd
                                        (Prod.snd
                                          (Prod.snd
                                            (Prod.snd
                                              (Prod.snd
                                                (Prod.snd
                                                  (Prod.snd
                                                    (Prod.snd
                                                      (Prod.snd
                                                        (Prod.snd
                                                          (Prod.snd (Prod.snd (Prod.snd (Prod.snd val))))))))))))))).1,
                                  (Prod.snd
                                      (Prod.snd
                                        (Prod.snd
                                          (Prod.snd
                                            (Prod.snd
                                              (Prod.snd
                                                (Prod.snd
                                                  (Prod.snd
                                                    (Prod.snd
                                                      (Prod.snd
                                                        (Prod.snd
                                                          (Prod.snd
                                                            (Prod.snd (Prod.snd (Prod.snd (Prod.snd val)))))))))))))))).1,
                                  ())
                            else
                              some
                                ((((Prod.fst val).1, (Prod.snd (Prod.fst val)).1, (Prod.snd (Prod.snd (Prod.fst val))).1,
                                      ()),
                                    true, (0 : Int), ()),
                                  ((Prod.fst (Prod.snd val)).1, (), (), (), (),
                                    (Prod.snd (Prod.snd (Prod.snd (Prod.snd (Prod.snd (Prod.fst (Prod.snd val))))))).1,
                                    (Prod.snd
                                        (Prod.snd (Prod.snd (Prod.snd (Prod.snd (Prod.snd (Prod.fst (Prod.snd val)))))))).1,
                                    (Prod.snd
                                        (Prod.snd
                                          (Prod.snd
                                            (Prod.snd (Prod.snd (Prod.snd (Prod.snd (Prod.fst (Prod.snd val))))))))).1,
                                    ()),
                                  (), (), (((), ()), (), (), ()), ((), ()), (), (), (((), ()), (), (), ()), (), (),
                                  (Prod.snd
                                      (Prod.snd
                                        (Prod.snd
                                          (Prod.snd
                                            (Prod.snd
                                              (Prod.snd (Prod.snd (Prod.snd (Prod.snd (Prod.snd (Prod.snd val))))))))))).1,
                                  (Prod.snd
                                      (Prod.snd
                                        (Prod.snd
                                          (Prod.snd
                                            (Prod.snd
                                              (Prod.snd
                                                (Prod.snd
                                                  (Prod.snd (Prod.snd (Prod.snd (Prod.snd (Prod.snd val)))))))))))).1,
                                  (Prod.snd
                                      (Prod.snd
                                        (Prod.snd
                                          (Prod.snd
                                            (Prod.snd
                                              (Prod.snd
                                                (Prod.snd
                                                  (Prod.snd
                                                    (Prod.snd (Prod.snd (Prod.snd (Prod.snd (Prod.snd val))))))))))))).1,
                                  (Prod.snd
                                      (Prod.snd
                                        (Prod.snd
                                          (Prod.snd
                                            (Prod.snd
                                              (Prod.snd
                                                (Prod.snd
                                                  (Prod.snd
                                                    (Prod.snd
                                                      (Prod.snd (Prod.snd (Prod.snd (Prod.snd (Prod.snd val)))))))))))))).1,
                                  (Prod.snd
                                      (Prod.snd
                                        (Prod.snd
                                          (Prod.snd
                                            (Prod.snd
                                              (Prod.snd
                                                (Prod.snd
                                                  (Prod.snd
                                                    (Prod.snd
                                                      (Prod.snd
                                                        (Prod.snd
                                                          (Prod.snd (Prod.snd (Prod.snd (Prod.snd val))))))))))))))).1,
                                  (Prod.snd
                                      (Prod.snd
                                        (Prod.snd
                                          (Prod.snd
                                            (Prod.snd
                                              (Prod.snd
                                                (Prod.snd
                                                  (Prod.snd
                                                    (Prod.snd
                                                      (Prod.snd
                                                        (Prod.snd
                                                          (Prod.snd
                                                            (Prod.snd (Prod.snd (Prod.snd (Prod.snd val)))))))))))))))).1,
                                  ())
                      else none
                    else none
          else none
noncomputable def T12 (K : Nat) : List (Entry Try.prog) := [E26, E27b K, E27w K, E14, E28 K]
noncomputable def cuts12 (K : Nat) : List (Cut (AT alts12)) := []
theorem e12 (k : Nat) : ∀ x y, F12 k x y = codeJ Try.prog (tableJ (T12 k)) (Lof 10 k (cuts12 k)) body12 (st0M pin12 os12 x y) (endJ Try.prog 10 [.cell 4 31, .tmp 5, .tmp 6] alts12) := by
  rintro ⟨⟨⟩, ⟨⟨a1, ⟨a2, ⟨a3, ⟨⟩⟩⟩⟩, ⟨⟩⟩⟩ ⟨⟨a4, ⟨⟨⟩, ⟨⟨⟩, ⟨⟨⟩, ⟨⟨⟩, ⟨a5, ⟨a6, ⟨a7, ⟨⟩⟩⟩⟩⟩⟩⟩⟩⟩, ⟨a8, ⟨a9, ⟨⟨⟨⟨⟩, ⟨⟩⟩, ⟨⟨⟩, ⟨⟨⟩, ⟨⟩⟩⟩⟩, ⟨⟨⟨⟩, ⟨⟩⟩, ⟨a10, ⟨a11, ⟨⟨⟨⟨⟩, ⟨⟩⟩, ⟨⟨⟩, ⟨⟨⟩, ⟨⟩⟩⟩⟩, ⟨a12, ⟨a13, ⟨⟩⟩⟩⟩⟩⟩⟩⟩⟩⟩⟩; kernel_rfl
theorem k12 (k : Nat) : FnOK Try.prog 12 pin12 os12 alts12 (F12 k) :=
  fn_okM (fn := Try.f12) (body := body12) (cuts := cuts12 k) (k := k) (C := tableJ (T12 k)) (C' := tableJ (T12 k)) (table_ok _) (table_nat _) (table_ok _) mixed (by kernel_rfl) (by kernel_rfl) (by decide) (by kernel_rfl) (fun x => Nat.le_of_ble_eq_true (by kernel_rfl))
    (fun c h => by cases h) (fun c h => by cases h) (e12 k)
noncomputable def E12 (k : Nat) : Entry Try.prog := ⟨12, pin12, os12, alts12, F12 k, k12 k, rfl⟩
/-! 13 Pop -/
abbrev pin13 : VPL := (.cons (.ptr 0 0) .nil)
abbrev os13 : List OP := [.box (.cons (.int .i64) (.cons (.full 1) (.cons (.full 2) (.cons (.ptr 3 0) (.cons (.ptr 7 0) (.cons (.int .u64) (.cons (.int .i64) (.cons .bool .nil)))))))) true, .row (.many [.int .i64, .int .i64, .int .i64, .int .u64]) true, .row (.one (.int .i64)) true, .box (.cons (.fn 22 (.cons (.ptr 4 0) .nil)) (.cons (.full 5) (.cons (.full 6) .nil))) true, .box (.cons (.ptr 0 0) .nil) true, .row (.one (.int .i64)) true, .row (.one (.int .i64)) true, .box (.cons (.fn 24 (.cons (.ptr 4 0) .nil)) (.cons (.full 8) (.cons (.full 9) .nil))) true, .row (.one (.int .i64)) true, .row (.one (.int .i64)) true]
abbrev alts13 : List Alt := [(.tup (.cons (.agg (.cons (.int .i64) (.cons (.int .i64) (.cons (.int .i64) .nil)))) (.cons .bool .nil)), [.box (.cons (.int .i64) (.cons (.full 10) (.cons (.full 11) (.cons (.ptr 3 0) (.cons (.ptr 7 0) (.cons (.int .u64) (.cons (.int .i64) (.cons .bool .nil)))))))) true, .gone, .gone, .box (.cons (.fn 22 (.cons (.ptr 4 0) .nil)) (.cons (.full 12) (.cons (.full 13) .nil))) true, .box (.cons (.ptr 0 0) .nil) true, .gone, .gone, .box (.cons (.fn 24 (.cons (.ptr 4 0) .nil)) (.cons (.full 14) (.cons (.full 15) .nil))) true, .gone, .gone, .row (.many [.int .i64, .int .i64, .int .i64, .int .u64]) true, .row (.one (.int .i64)) true, .row (.one (.int .i64)) true, .row (.one (.int .i64)) true, .row (.one (.int .i64)) true, .row (.one (.int .i64)) true])]
noncomputable def body13 : Code := match Try.f13.body with
  | some c => c
  | none => .skip
def F13 (k : Nat) : pin13.T → OPL.T os13 → Option (AT alts13)
  | ((), ()), ((a1, ((), ((), ((), ((), (a2, (a3, (a4, ())))))))), (a5, (a6, ((((), ()), ((), ((), ()))), (((), ()), (a7, (a8, ((((), ()), ((), ((), ()))), (a9, (a10, ())))))))))) =>
    Option.bind
      (F14 ((), ())
        ((a1, (), (), (), (), a2, a3, a4, ()), a5, a6, (((), ()), (), (), ()), ((), ()), a7, a8, (((), ()), (), (), ()), a9,
          a10, ()))
      fun val =>
      if decide (val.1 = (0 : Int)) = true then
        some
          ((((0 : Int), (0 : Int), (0 : Int), ()), false, ()), (a1, (), (), (), (), a2, a3, a4, ()), (), (),
            (((), ()), (), (), ()), ((), ()), (), (), (((), ()), (), (), ()), (), (), a5, a6, a7, a8, a9, a10, ())
      else
        if (0 : Int) ≤ (0 : Int) ∧ (0 : Int) < (↑(List.length a7) : Int) then
          if (0 : Nat) < List.length a7 then
            Option.bind
              ((F28 k) ((), List.getD a7 (0 : Nat) (0 : Int), ())
                ((a1, (), (), (), (), a2, a3, a4, ()), a5, a6, (((), ()), (), (), ()), ((), ()), a7, a8,
                  (((), ()), (), (), ()), a9, a10, ()))
              fun val =>
              some
                ((((Prod.fst val).1, (Prod.snd (Prod.fst val)).1, (Prod.snd (Prod.snd (Prod.fst val))).1, ()), true, ()),
                  ((Prod.fst (Prod.snd val)).1, (), (), (), (),
                    (Prod.snd (Prod.snd (Prod.snd (Prod.snd (Prod.snd (Prod.fst (Prod.snd val))))))).1,
                    (Prod.snd (Prod.snd (Prod.snd (Prod.snd (Prod.snd (Prod.snd (Prod.fst (Prod.snd val)))))))).1,
                    (Prod.snd
                        (Prod.snd (Prod.snd (Prod.snd (Prod.snd (Prod.snd (Prod.snd (Prod.fst (Prod.snd val))))))))).1,
                    ()),
                  (), (), (((), ()), (), (), ()), ((), ()), (), (), (((), ()), (), (), ()), (), (),
                  (Prod.snd
                      (Prod.snd
                        (Prod.snd
                          (Prod.snd (Prod.snd (Prod.snd (Prod.snd (Prod.snd (Prod.snd (Prod.snd (Prod.snd val))))))))))).1,
                  (Prod.snd
                      (Prod.snd
                        (Prod.snd
                          (Prod.snd
                            (Prod.snd
                              (Prod.snd (Prod.snd (Prod.snd (Prod.snd (Prod.snd (Prod.snd (Prod.snd val)))))))))))).1,
                  (Prod.snd
                      (Prod.snd
                        (Prod.snd
                          (Prod.snd
                            (Prod.snd
                              (Prod.snd
                                (Prod.snd (Prod.snd (Prod.snd (Prod.snd (Prod.snd (Prod.snd (Prod.snd val))))))))))))).1,
                  (Prod.snd
                      (Prod.snd
                        (Prod.snd
                          (Prod.snd
                            (Prod.snd
                              (Prod.snd
                                (Prod.snd
                                  (Prod.snd (Prod.snd (Prod.snd (Prod.snd (Prod.snd (Prod.snd (Prod.snd val)))))))))))))).1,
                  (Prod.snd
                      (Prod.snd
                        (Prod.snd
                          (Prod.snd
                            (Prod.snd
                              (Prod.snd
                                (Prod.snd
                                  (Prod.snd
                                    (Prod.snd
                                      (Prod.snd (Prod.snd (Prod.snd (Prod.snd (Prod.snd (Prod.snd val))))))))))))))).1,
                  (Prod.snd
                      (Prod.snd
                        (Prod.snd
                          (Prod.snd
                            (Prod.snd
                              (Prod.snd
                                (Prod.snd
                                  (Prod.snd
                                    (Prod.snd
                                      (Prod.snd
                                        (Prod.snd (Prod.snd (Prod.snd (Prod.snd (Prod.snd (Prod.snd val)))))))))))))))).1,
                  ())
          else none
        else none
noncomputable def T13 (K : Nat) : List (Entry Try.prog) := [E14, E28 K]
noncomputable def cuts13 (K : Nat) : List (Cut (AT alts13)) := []
theorem e13 (k : Nat) : ∀ x y, F13 k x y = codeJ Try.prog (tableJ (T13 k)) (Lof 10 k (cuts13 k)) body13 (st0M pin13 os13 x y) (endJ Try.prog 10 [.cell 2 31, .tmp 3] alts13) := by
  rintro ⟨⟨⟩, ⟨⟩⟩ ⟨⟨a1, ⟨⟨⟩, ⟨⟨⟩, ⟨⟨⟩, ⟨⟨⟩, ⟨a2, ⟨a3, ⟨a4, ⟨⟩⟩⟩⟩⟩⟩⟩⟩⟩, ⟨a5, ⟨a6, ⟨⟨⟨⟨⟩, ⟨⟩⟩, ⟨⟨⟩, ⟨⟨⟩, ⟨⟩⟩⟩⟩, ⟨⟨⟨⟩, ⟨⟩⟩, ⟨a7, ⟨a8, ⟨⟨⟨⟨⟩, ⟨⟩⟩, ⟨⟨⟩, ⟨⟨⟩, ⟨⟩⟩⟩⟩, ⟨a9, ⟨a10, ⟨⟩⟩⟩⟩⟩⟩⟩⟩⟩⟩⟩; kernel_rfl
theorem k13 (k : Nat) : FnOK Try.prog 13 pin13 os13 alts13 (F13 k) :=
  fn_okM (fn := Try.f13) (body := body13) (cuts := cuts13 k) (k := k) (C := tableJ (T13 k)) (C' := tableJ (T13 k)) (table_ok _) (table_nat _) (table_ok _) mixed (by kernel_rfl) (by kernel_rfl) (by decide) (by kernel_rfl) (fun x => Nat.le_of_ble_eq_true (by kernel_rfl))
    (fun c h => by cases h) (fun c h => by cases h) (e13 k)
noncomputable def E13 (k : Nat) : Entry Try.prog := ⟨13, pin13, os13, alts13, F13 k, k13 k, rfl⟩
/-! 9 New -/
abbrev pin9 : VPL := (.cons (.int .i64) .nil)
abbrev os9 : List OP := []
abbrev alts9 : List Alt := [(.tup (.cons .nilp (.cons (.int .i64) .nil)), []), (.tup (.cons (.ptr 0 0) (.cons (.int .i64) .nil)), [.box (.cons (.int .i64) (.cons (.full 1) (.cons (.full 2) (.cons (.ptr 3 0) (.cons (.ptr 7 0) (.cons (.int .u64) (.cons (.int .i64) (.cons .bool .nil)))))))) true, .row (.many [.int .i64, .int .i64, .int .i64, .int .u64]) true, .row (.one (.int .i64)) true, .box (.cons (.fn 22 (.cons (.ptr 4 0) .nil)) (.cons (.full 5) (.cons (.full 6) .nil))) true, .box (.cons (.ptr 0 0) .nil) true, .row (.one (.int .i64)) true, .row (.one (.int .i64)) true, .box (.cons (.fn 24 (.cons (.ptr 4 0) .nil)) (.cons (.full 8) (.cons (.full 9) .nil))) true, .row (.one (.int .i64)) true, .row (.one (.int .i64)) true])]
noncomputable def body9 : Code := match Try.f9.body with
  | some c => c
  | none => .skip
def F9 : pin9.T → OPL.T os9 → Option (AT alts9)
  | (a1, ()), () =>
    if decide (a1 < (1 : Int)) = true then some (Sum.inl (((), (1 : Int), ()), ()))
    else
      if decide ((65536 : Int) < a1) = true then some (Sum.inl (((), (1 : Int), ()), ()))
      else
        some
          (Sum.inr
            (((), (0 : Int), ()), (a1, (), (), (), (), (0 : Int), (0 : Int), false, ()), [], [], (((), ()), (), (), ()),
              ((), ()), [], [], (((), ()), (), (), ()), [], [], ()))
noncomputable def T9 : List (Entry Try.prog) := []
noncomputable def cuts9 : List (Cut (AT alts9)) := []
theorem e9 : ∀ x y, F9 x y = codeJ Try.prog (tableJ (T9)) (Lof 0 0 (cuts9)) body9 (st0 pin9 os9 x y) (endJ Try.prog 0 [.tmp 2, .tmp 3] alts9) := by
  rintro ⟨a1, ⟨⟩⟩ ⟨⟩; kernel_rfl
theorem k9 : FnOK Try.prog 9 pin9 os9 alts9 (F9) :=
  fn_ok (fn := Try.f9) (body := body9) (cuts := cuts9) (k := 0) (C := tableJ (T9)) (C' := tableJ (T9)) (table_ok _) (table_nat _) (table_ok _) mixed (by kernel_rfl) (by kernel_rfl) (by decide) (by kernel_rfl) (fun x => Nat.le_of_ble_eq_true (by kernel_rfl))
    (fun c h => by cases h) (fun c h => by cases h) (e9)
noncomputable def E9 : Entry Try.prog := ⟨9, pin9, os9, alts9, F9, k9, rfl⟩
/-! 10 num -/
abbrev pin10 : VPL := (.cons (.int .i64) .nil)
abbrev os10 : List OP := []
abbrev alts10 : List Alt := [(.int .i64, [])]
noncomputable def body10 : Code := match Try.f10.body with
  | some c => c
  | none => .skip
def F10 : pin10.T → OPL.T os10 → Option (AT alts10)
  | (a1, ()), () =>
    some (a1, ())
noncomputable def T10 : List (Entry Try.prog) := []
noncomputable def cuts10 : List (Cut (AT alts10)) := []
theorem e10 : ∀ x y, F10 x y = codeJ Try.prog (tableJ (T10)) (Lof 0 0 (cuts10)) body10 (st0 pin10 os10 x y) (endJ Try.prog 0 [.tmp 2] alts10) := by
  rintro ⟨a1, ⟨⟩⟩ ⟨⟩; kernel_rfl
theorem k10 : FnOK Try.prog 10 pin10 os10 alts10 (F10) :=
  fn_ok (fn := Try.f10) (body := body10) (cuts := cuts10) (k := 0) (C := tableJ (T10)) (C' := tableJ (T10)) (table_ok _) (table_nat _) (table_ok _) mixed (by kernel_rfl) (by kernel_rfl) (by decide) (by kernel_rfl) (fun x => Nat.le_of_ble_eq_true (by kernel_rfl))
    (fun c h => by cases h) (fun c h => by cases h) (e10)
noncomputable def E10 : Entry Try.prog := ⟨10, pin10, os10, alts10, F10, k10, rfl⟩
/-! 15 Worst -/
abbrev pin15 : VPL := (.cons (.ptr 0 0) .nil)
abbrev os15 : List OP := [.box (.cons (.int .i64) (.cons (.full 1) (.cons (.full 2) (.cons (.ptr 3 0) (.cons (.ptr 7 0) (.cons (.int .u64) (.cons (.int .i64) (.cons .bool .nil)))))))) false, .row (.many [.int .i64, .int .i64, .int .i64, .int .u64]) false, .row (.one (.int .i64)) false, .box (.cons (.fn 22 (.cons (.ptr 4 0) .nil)) (.cons (.full 5) (.cons (.full 6) .nil))) false, .box (.cons (.ptr 0 0) .nil) false, .row (.one (.int .i64)) false, .row (.one (.int .i64)) false, .box (.cons (.fn 24 (.cons (.ptr 4 0) .nil)) (.cons (.full 8) (.cons (.full 9) .nil))) false, .row (.one (.int .i64)) false, .row (.one (.int .i64)) false]
abbrev alts15 : List Alt := [(.tup (.cons (.agg (.cons (.int .i64) (.cons (.int .i64) (.cons (.int .i64) .nil)))) (.cons .bool .nil)), [.box (.cons (.int .i64) (.cons (.full 1) (.cons (.full 2) (.cons (.ptr 3 0) (.cons (.ptr 7 0) (.cons (.int .u64) (.cons (.int .i64) (.cons .bool .nil)))))))) false, .row (.many [.int .i64, .int .i64, .int .i64, .int .u64]) false, .row (.one (.int .i64)) false, .box (.cons (.fn 22 (.cons (.ptr 4 0) .nil)) (.cons (.full 5) (.cons (.full 6) .nil))) false, .box (.cons (.ptr 0 0) .nil) false, .row (.one (.int .i64)) false, .row (.one (.int .i64)) false, .box (.cons (.fn 24 (.cons (.ptr 4 0) .nil)) (.cons (.full 8) (.cons (.full 9) .nil))) false, .row (.one (.int .i64)) false, .row (.one (.int .i64)) false])]
noncomputable def body15 : Code := match Try.f15.body with
  | some c => c
  | none => .skip
def F15 : pin15.T → OPL.T os15 → Option (AT alts15)
  | ((), ()), ((a1, ((), ((), ((), ((), (a2, (a3, (a4, ())))))))), (a5, (a6, ((((), ()), ((), ((), ()))), (((), ()), (a7, (a8, ((((), ()), ((), ((), ()))), (a9, (a10, ())))))))))) =>
    Option.bind
      (F14 ((), ())
        ((a1, (), (), (), (), a2, a3, a4, ()), a5, a6, (((), ()), (), (), ()), ((), ()), a7, a8, (((), ()), (), (), ()), a9,
          a10, ()))
      fun val =>
      if decide (val.1 = (0 : Int)) = true then
        some
          ((((0 : Int), (0 : Int), (0 : Int), ()), false, ()), (a1, (), (), (), (), a2, a3, a4, ()), a5, a6,
            (((), ()), (), (), ()), ((), ()), a7, a8, (((), ()), (), (), ()), a9, a10, ())
      else
        if (0 : Int) ≤ (0 : Int) ∧ (0 : Int) < (↑(List.length a9) : Int) then
          if (0 : Nat) < List.length a9 then
            if
                (0 : Int) ≤ List.getD a9 (0 : Nat) (0 : Int) ∧
                  List.getD a9 (0 : Nat) (0 : Int) < (↑(List.length a5) : Int) then
              if Int.toNat (List.getD a9 (0 : Nat) (0 : Int)) < List.length a5 then
                some
                  ((((List.getD
                            (Prod.fst
                              (Prod.snd
                                ((a1, (), (), (), (), a2, a3, a4, ()), a5, a6, (((), ()), (), (), ()), ((), ()), a7, a8,
                                  (((), ()), (), (), ()), a9, a10, ())))
                            (Int.toNat
                              (List.getD
                                (Prod.fst
                                  (Prod.snd
                                    (Prod.snd
                                      (Prod.snd
                                        (Prod.snd
                                          (Prod.snd
                                            (Prod.snd
                                              (Prod.snd
                                                (Prod.snd
                                                  ((a1, (), (), (), (), a2, a3, a4, ()), a5, a6, (((), ()), (), (), ()),
                                                    ((), ()), a7, a8, (((), ()), (), (), ()), a9, a10, ()))))))))))
                                (Int.toNat (0 : Int)) (EK.dflt (EK.one (SK.int IntKind.i64)))))
                            (EK.dflt
                              (EK.many
                                [SK.int IntKind.i64, SK.int IntKind.i64, SK.int IntKind.i64, SK.int IntKind.u64]))).1,
                        (Prod.snd
                            (List.getD
                              (Prod.fst
                                (Prod.snd
                                  ((a1, (), (), (), (), a2, a3, a4, ()), a5, a6, (((), ()), (), (), ()), ((), ()), a7, a8,
                                    (((), ()), (), (), ()), a9, a10, ())))
                              (Int.toNat
                                (List.getD
                                  (Prod.fst
                                    (Prod.snd
                                      (Prod.snd
                                        (Prod.snd
                                          (Prod.snd
                                            (Prod.snd
                                              (Prod.snd
                                                (Prod.snd
                                                  (Prod.snd
                                                    ((a1, (), (), (), (), a2, a3, a4, ()), a5, a6, (((), ()), (), (), ()),
                                                      ((), ()), a7, a8, (((), ()), (), (), ()), a9, a10, ()))))))))))
                                  (Int.toNat (0 : Int)) (EK.dflt (EK.one (SK.int IntKind.i64)))))
                              (EK.dflt
                                (EK.many
                                  [SK.int IntKind.i64, SK.int IntKind.i64, SK.int IntKind.i64, SK.int IntKind.u64])))).1,
                        (Prod.snd
                            (Prod.snd
                              (List.getD
                                (Prod.fst
                                  (Prod.snd
                                    ((a1, (), (), (), (), a2, a3, a4, ()), a5, a6, (((), ()), (), (), ()), ((), ()), a7, a8,
                                      (((), ()), (), (), ()), a9, a10, ())))
                                (Int.toNat
                                  (List.getD
                                    (Prod.fst
                                      (Prod.snd
                                        (Prod.snd
                                          (Prod.snd
                                            (Prod.snd
                                              (Prod.snd
                                                (Prod.snd
                                                  (Prod.snd
                                                    (Prod.snd
                                                      ((a1, (), (), (), (), a2, a3, a4, ()), a5, a6, (((), ()), (), (), ()),
                                                        ((), ()), a7, a8, (((), ()), (), (), ()), a9, a10, ()))))))))))
                                    (Int.toNat (0 : Int)) (EK.dflt (EK.one (SK.int IntKind.i64)))))
                                (EK.dflt
                                  (EK.many
                                    [SK.int IntKind.i64, SK.int IntKind.i64, SK.int IntKind.i64, SK.int IntKind.u64]))))).1,
                        ()),
                      true, ()),
                    (a1, (), (), (), (), a2, a3, a4, ()), a5, a6, (((), ()), (), (), ()), ((), ()), a7, a8,
                    (((), ()), (), (), ()), a9, a10, ())
              else none
            else none
          else none
        else none
noncomputable def T15 : List (Entry Try.prog) := [E14]
noncomputable def cuts15 : List (Cut (AT alts15)) := []
theorem e15 : ∀ x y, F15 x y = codeJ Try.prog (tableJ (T15)) (Lof 10 0 (cuts15)) body15 (st0 pin15 os15 x y) (endJ Try.prog 10 [.cell 2 31, .tmp 3] alts15) := by
  rintro ⟨⟨⟩, ⟨⟩⟩ ⟨⟨a1, ⟨⟨⟩, ⟨⟨⟩, ⟨⟨⟩, ⟨⟨⟩, ⟨a2, ⟨a3, ⟨a4, ⟨⟩⟩⟩⟩⟩⟩⟩⟩⟩, ⟨a5, ⟨a6, ⟨⟨⟨⟨⟩, ⟨⟩⟩, ⟨⟨⟩, ⟨⟨⟩, ⟨⟩⟩⟩⟩, ⟨⟨⟨⟩, ⟨⟩⟩, ⟨a7, ⟨a8, ⟨⟨⟨⟨⟩, ⟨⟩⟩, ⟨⟨⟩, ⟨⟨⟩, ⟨⟩⟩⟩⟩, ⟨a9, ⟨a10, ⟨⟩⟩⟩⟩⟩⟩⟩⟩⟩⟩⟩; kernel_rfl
theorem k15 : FnOK Try.prog 15 pin15 os15 alts15 (F15) :=
  fn_ok (fn := Try.f15) (body := body15) (cuts := cuts15) (k := 0) (C := tableJ (T15)) (C' := tableJ (T15)) (table_ok _) (table_nat _) (table_ok _) mixed (by kernel_rfl) (by kernel_rfl) (by decide) (by kernel_rfl) (fun x => Nat.le_of_ble_eq_true (by kernel_rfl))
    (fun c h => by cases h) (fun c h => by cases h) (e15)
noncomputable def E15 : Entry Try.prog := ⟨15, pin15, os15, alts15, F15, k15, rfl⟩
/-! 25 Top -/
abbrev pin25 : VPL := (.cons (.ptr 0 0) .nil)
abbrev os25 : List OP := [.box (.cons (.int .i64) (.cons (.full 1) (.cons (.full 2) (.cons (.ptr 3 0) (.cons (.ptr 7 0) (.cons (.int .u64) (.cons (.int .i64) (.cons .bool .nil)))))))) false, .row (.many [.int .i64, .int .i64, .int .i64, .int .u64]) false, .row (.one (.int .i64)) false, .box (.cons (.fn 22 (.cons (.ptr 4 0) .nil)) (.cons (.full 5) (.cons (.full 6) .nil))) false, .box (.cons (.ptr 0 0) .nil) false, .row (.one (.int .i64)) false, .row (.one (.int .i64)) false, .box (.cons (.fn 24 (.cons (.ptr 4 0) .nil)) (.cons (.full 8) (.cons (.full 9) .nil))) false, .row (.one (.int .i64)) false, .row (.one (.int .i64)) false]
abbrev alts25 : List Alt := [(.tup (.cons (.agg (.cons (.int .i64) (.cons (.int .i64) (.cons (.int .i64) .nil)))) (.cons .bool .nil)), [.box (.cons (.int .i64) (.cons (.full 1) (.cons (.full 2) (.cons (.ptr 3 0) (.cons (.ptr 7 0) (.cons (.int .u64) (.cons (.int .i64) (.cons .bool .nil)))))))) false, .row (.many [.int .i64, .int .i64, .int .i64, .int .u64]) false, .row (.one (.int .i64)) false, .box (.cons (.fn 22 (.cons (.ptr 4 0) .nil)) (.cons (.full 5) (.cons (.full 6) .nil))) false, .box (.cons (.ptr 0 0) .nil) false, .row (.one (.int .i64)) false, .row (.one (.int .i64)) false, .box (.cons (.fn 24 (.cons (.ptr 4 0) .nil)) (.cons (.full 8) (.cons (.full 9) .nil))) false, .row (.one (.int .i64)) false, .row (.one (.int .i64)) false])]
noncomputable def body25 : Code := match Try.f25.body with
  | some c => c
  | none => .skip
def F25 : pin25.T → OPL.T os25 → Option (AT alts25)
  | ((), ()), ((a1, ((), ((), ((), ((), (a2, (a3, (a4, ())))))))), (a5, (a6, ((((), ()), ((), ((), ()))), (((), ()), (a7, (a8, ((((), ()), ((), ((), ()))), (a9, (a10, ())))))))))) =>
    Option.bind
      (F14 ((), ())
        ((a1, (), (), (), (), a2, a3, a4, ()), a5, a6, (((), ()), (), (), ()), ((), ()), a7, a8, (((), ()), (), (), ()), a9,
          a10, ()))
      fun val =>
      if decide (val.1 = (0 : Int)) = true then
        some
          ((((0 : Int), (0 : Int), (0 : Int), ()), false, ()), (a1, (), (), (), (), a2, a3, a4, ()), a5, a6,
            (((), ()), (), (), ()), ((), ()), a7, a8, (((), ()), (), (), ()), a9, a10, ())
      else
        if (0 : Int) ≤ (0 : Int) ∧ (0 : Int) < (↑(List.length a7) : Int) then
          if (0 : Nat) < List.length a7 then
            if
                (0 : Int) ≤ List.getD a7 (0 : Nat) (0 : Int) ∧
                  List.getD a7 (0 : Nat) (0 : Int) < (↑(List.length a5) : Int) then
              if Int.toNat (List.getD a7 (0 : Nat) (0 : Int)) < List.length a5 then
                some
                  ((((List.getD
                            (Prod.fst
                              (Prod.snd
                                ((a1, (), (), (), (), a2, a3, a4, ()), a5, a6, (((), ()), (), (), ()), ((), ()), a7, a8,
                                  (((), ()), (), (), ()), a9, a10, ())))
                            (Int.toNat
                              (List.getD
                                (Prod.fst
                                  (Prod.snd
                                    (Prod.snd
                                      (Prod.snd
                                        (Prod.snd
                                          (Prod.snd
                                            ((a1, (), (), (), (), a2, a3, a4, ()), a5, a6, (((), ()), (), (), ()), ((), ()),
                                              a7, a8, (((), ()), (), (), ()), a9, a10, ())))))))
                                (Int.toNat (0 : Int)) (EK.dflt (EK.one (SK.int IntKind.i64)))))
                            (EK.dflt
                              (EK.many
                                [SK.int IntKind.i64, SK.int IntKind.i64, SK.int IntKind.i64, SK.int IntKind.u64]))).1,
                        (Prod.snd
                            (List.getD
                              (Prod.fst
                                (Prod.snd
                                  ((a1, (), (), (), (), a2, a3, a4, ()), a5, a6, (((), ()), (), (), ()), ((), ()), a7, a8,
                                    (((), ()), (), (), ()), a9, a10, ())))
                              (Int.toNat
                                (List.getD
                                  (Prod.fst
                                    (Prod.snd
                                      (Prod.snd
                                        (Prod.snd
                                          (Prod.snd
                                            (Prod.snd
                                              ((a1, (), (), (), (), a2, a3, a4, ()), a5, a6, (((), ()), (), (), ()),
                                                ((), ()), a7, a8, (((), ()), (), (), ()), a9, a10, ())))))))
                                  (Int.toNat (0 : Int)) (EK.dflt (EK.one (SK.int IntKind.i64)))))
                              (EK.dflt
                                (EK.many
                                  [SK.int IntKind.i64, SK.int IntKind.i64, SK.int IntKind.i64, SK.int IntKind.u64])))).1,
                        (Prod.snd
                            (Prod.snd
                              (List.getD
                                (Prod.fst
                                  (Prod.snd
                                    ((a1, (), (), (), (), a2, a3, a4, ()), a5, a6, (((), ()), (), (), ()), ((), ()), a7, a8,
                                      (((), ()), (), (), ()), a9, a10, ())))
                                (Int.toNat
                                  (List.getD
                                    (Prod.fst
                                      (Prod.snd
                                        (Prod.snd
                                          (Prod.snd
                                            (Prod.snd
                                              (Prod.snd
                                                ((a1, (), (), (), (), a2, a3, a4, ()), a5, a6, (((), ()), (), (), ()),
                                                  ((), ()), a7, a8, (((), ()), (), (), ()), a9, a10, ())))))))
                                    (Int.toNat (0 : Int)) (EK.dflt (EK.one (SK.int IntKind.i64)))))
                                (EK.dflt
                                  (EK.many
                                    [SK.int IntKind.i64, SK.int IntKind.i64, SK.int IntKind.i64, SK.int IntKind.u64]))))).1,
                        ()),
                      true, ()),
                    (a1, (), (), (), (), a2, a3, a4, ()), a5, a6, (((), ()), (), (), ()), ((), ()), a7, a8,
                    (((), ()), (), (), ()), a9, a10, ())
              else none
            else none
          else none
        else none
noncomputable def T25 : List (Entry Try.prog) := [E14]
noncomputable def cuts25 : List (Cut (AT alts25)) := []
theorem e25 : ∀ x y, F25 x y = codeJ Try.prog (tableJ (T25)) (Lof 10 0 (cuts25)) body25 (st0 pin25 os25 x y) (endJ Try.prog 10 [.cell 2 31, .tmp 3] alts25) := by
  rintro ⟨⟨⟩, ⟨⟩⟩ ⟨⟨a1, ⟨⟨⟩, ⟨⟨⟩, ⟨⟨⟩, ⟨⟨⟩, ⟨a2, ⟨a3, ⟨a4, ⟨⟩⟩⟩⟩⟩⟩⟩⟩⟩, ⟨a5, ⟨a6, ⟨⟨⟨⟨⟩, ⟨⟩⟩, ⟨⟨⟩, ⟨⟨⟩, ⟨⟩⟩⟩⟩, ⟨⟨⟨⟩, ⟨⟩⟩, ⟨a7, ⟨a8, ⟨⟨⟨⟨⟩, ⟨⟩⟩, ⟨⟨⟩, ⟨⟨⟩, ⟨⟩⟩⟩⟩, ⟨a9, ⟨a10, ⟨⟩⟩⟩⟩⟩⟩⟩⟩⟩⟩⟩; kernel_rfl
theorem k25 : FnOK Try.prog 25 pin25 os25 alts25 (F25) :=
  fn_ok (fn := Try.f25) (body := body25) (cuts := cuts25) (k := 0) (C := tableJ (T25)) (C' := tableJ (T25)) (table_ok _) (table_nat _) (table_ok _) mixed (by kernel_rfl) (by kernel_rfl) (by decide) (by kernel_rfl) (fun x => Nat.le_of_ble_eq_true (by kernel_rfl))
    (fun c h => by cases h) (fun c h => by cases h) (e25)
noncomputable def E25 : Entry Try.prog := ⟨25, pin25, os25, alts25, F25, k25, rfl⟩
/-! 17 Mark -/
abbrev pin17 : VPL := (.cons (.ptr 0 0) .nil)
abbrev os17 : List OP := [.box (.cons (.int .i64) (.cons (.full 1) (.cons (.full 2) (.cons (.ptr 3 0) (.cons (.ptr 7 0) (.cons (.int .u64) (.cons (.int .i64) (.cons .bool .nil)))))))) false, .row (.many [.int .i64, .int .i64, .int .i64, .int .u64]) false, .row (.one (.int .i64)) false, .box (.cons (.fn 22 (.cons (.ptr 4 0) .nil)) (.cons (.full 5) (.cons (.full 6) .nil))) false, .box (.cons (.ptr 0 0) .nil) false, .row (.one (.int .i64)) false, .row (.one (.int .i64)) false, .box (.cons (.fn 24 (.cons (.ptr 4 0) .nil)) (.cons (.full 8) (.cons (.full 9) .nil))) false, .row (.one (.int .i64)) false, .row (.one (.int .i64)) false]
abbrev alts17 : List Alt := [(.tup (.cons (.int .i64) (.cons .bool .nil)), [.box (.cons (.int .i64) (.cons (.full 1) (.cons (.full 2) (.cons (.ptr 3 0) (.cons (.ptr 7 0) (.cons (.int .u64) (.cons (.int .i64) (.cons .bool .nil)))))))) false, .row (.many [.int .i64, .int .i64, .int .i64, .int .u64]) false, .row (.one (.int .i64)) false, .box (.cons (.fn 22 (.cons (.ptr 4 0) .nil)) (.cons (.full 5) (.cons (.full 6) .nil))) false, .box (.cons (.ptr 0 0) .nil) false, .row (.one (.int .i64)) false, .row (.one (.int .i64)) false, .box (.cons (.fn 24 (.cons (.ptr 4 0) .nil)) (.cons (.full 8) (.cons (.full 9) .nil))) false, .row (.one (.int .i64)) false, .row (.one (.int .i64)) false])]
noncomputable def body17 : Code := match Try.f17.body with
  | some c => c
  | none => .skip
def F17 : pin17.T → OPL.T os17 → Option (AT alts17)
  | ((), ()), ((a1, ((), ((), ((), ((), (a2, (a3, (a4, ())))))))), (a5, (a6, ((((), ()), ((), ((), ()))), (((), ()), (a7, (a8, ((((), ()), ((), ((), ()))), (a9, (a10, ())))))))))) =>
    Option.bind
      (F26 ((), ())
        ((a1, (), (), (), (), a2, a3, a4, ()), a5, a6, (((), ()), (), (), ()), ((), ()), a7, a8, (((), ()), (), (), ()), a9,
          a10, ()))
      fun val =>
      if (!val.1) = true then
        some
          (((0 : Int), false, ()), (a1, (), (), (), (), a2, a3, a4, ()), a5, a6, (((), ()), (), (), ()), ((), ()), a7, a8,
            (((), ()), (), (), ()), a9, a10, ())
      else
        some
          ((a3, a4, ()), (a1, (), (), (), (), a2, a3, a4, ()), a5, a6, (((), ()), (), (), ()), ((), ()), a7, a8,
            (((), ()), (), (), ()), a9, a10, ())
noncomputable def T17 : List (Entry Try.prog) := [E26]
noncomputable def cuts17 : List (Cut (AT alts17)) := []
theorem e17 : ∀ x y, F17 x y = codeJ Try.prog (tableJ (T17)) (Lof 10 0 (cuts17)) body17 (st0 pin17 os17 x y) (endJ Try.prog 10 [.tmp 2, .tmp 3] alts17) := by
  rintro ⟨⟨⟩, ⟨⟩⟩ ⟨⟨a1, ⟨⟨⟩, ⟨⟨⟩, ⟨⟨⟩, ⟨⟨⟩, ⟨a2, ⟨a3, ⟨a4, ⟨⟩⟩⟩⟩⟩⟩⟩⟩⟩, ⟨a5, ⟨a6, ⟨⟨⟨⟨⟩, ⟨⟩⟩, ⟨⟨⟩, ⟨⟨⟩, ⟨⟩⟩⟩⟩, ⟨⟨⟨⟩, ⟨⟩⟩, ⟨a7, ⟨a8, ⟨⟨⟨⟨⟩, ⟨⟩⟩, ⟨⟨⟩, ⟨⟨⟩, ⟨⟩⟩⟩⟩, ⟨a9, ⟨a10, ⟨⟩⟩⟩⟩⟩⟩⟩⟩⟩⟩⟩; kernel_rfl
theorem k17 : FnOK Try.prog 17 pin17 os17 alts17 (F17) :=
  fn_ok (fn := Try.f17) (body := body17) (cuts := cuts17) (k := 0) (C := tableJ (T17)) (C' := tableJ (T17)) (table_ok _) (table_nat _) (table_ok _) mixed (by kernel_rfl) (by kernel_rfl) (by decide) (by kernel_rfl) (fun x => Nat.le_of_ble_eq_true (by kernel_rfl))
    (fun c h => by cases h) (fun c h => by cases h) (e17)
noncomputable def E17 : Entry Try.prog := ⟨17, pin17, os17, alts17, F17, k17, rfl⟩
/-! 16 below -/
abbrev pin16 : VPL := (.cons (.agg (.cons (.int .i64) (.cons (.int .i64) (.cons (.int .i64) .nil)))) (.cons (.agg (.cons (.int .i64) (.cons (.int .i64) (.cons (.int .i64) .nil)))) .nil))
abbrev os16 : List OP := []
abbrev alts16 : List Alt := [(.bool, [])]
noncomputable def body16 : Code := match Try.f16.body with
  | some c => c
  | none => .skip
def F16 : pin16.T → OPL.T os16 → Option (AT alts16)
  | ((a1, (a2, (a3, ()))), ((a4, (a5, (a6, ()))), ())), () =>
    if decide (a1 < a4) = true then some (true, ())
    else if decide (a1 = a4) = true then some (decide (a2 ≤ a5), ()) else some (false, ())
noncomputable def T16 : List (Entry Try.prog) := []
noncomputable def cuts16 : List (Cut (AT alts16)) := []
theorem e16 : ∀ x y, F16 x y = codeJ Try.prog (tableJ (T16)) (Lof 0 0 (cuts16)) body16 (st0 pin16 os16 x y) (endJ Try.prog 0 [.tmp 4] alts16) := by
  rintro ⟨⟨a1, ⟨a2, ⟨a3, ⟨⟩⟩⟩⟩, ⟨⟨a4, ⟨a5, ⟨a6, ⟨⟩⟩⟩⟩, ⟨⟩⟩⟩ ⟨⟩; kernel_rfl
theorem k16 : FnOK Try.prog 16 pin16 os16 alts16 (F16) :=
  fn_ok (fn := Try.f16) (body := body16) (cuts := cuts16) (k := 0) (C := tableJ (T16)) (C' := tableJ (T16)) (table_ok _) (table_nat _) (table_ok _) mixed (by kernel_rfl) (by kernel_rfl) (by decide) (by kernel_rfl) (fun x => Nat.le_of_ble_eq_true (by kernel_rfl))
    (fun c h => by cases h) (fun c h => by cases h) (e16)
noncomputable def E16 : Entry Try.prog := ⟨16, pin16, os16, alts16, F16, k16, rfl⟩
/-! 11 knows -/
abbrev pin11 : VPL := .nil
abbrev os11 : List OP := []
abbrev alts11 : List Alt := [(.bool, [])]
noncomputable def body11 : Code := match Try.f11.body with
  | some c => c
  | none => .skip
def F11 (k : Nat) : pin11.T → OPL.T os11 → Option (AT alts11)
  | (), () =>
    Option.bind (F9 ((2 : Int), ()) ()) fun val =>
      Sum.elim
        (fun val =>
          Option.bind (F10 ((Prod.snd (Prod.fst val)).1, ()) ()) fun val =>
            if (!decide (val.1 = (0 : Int))) = true then some (false, ()) else some (false, ()))
        (fun val =>
          Option.bind (F10 ((Prod.snd (Prod.fst val)).1, ()) ()) fun val_1 =>
            if (!decide (val_1.1 = (0 : Int))) = true then some (false, ())
            else
              Option.bind
                ((F12 k) ((), ((1 : Int), (0 : Int), (7 : Int), ()), ())
                  (((Prod.fst (Prod.snd val)).1, (), (), (), (),
                      (Prod.snd (Prod.snd (Prod.snd (Prod.snd (Prod.snd (Prod.fst (Prod.snd val))))))).1,
                      (Prod.snd (Prod.snd (Prod.snd (Prod.snd (Prod.snd (Prod.snd (Prod.fst (Prod.snd val)))))))).1,
                      (Prod.snd
                          (Prod.snd (Prod.snd (Prod.snd (Prod.snd (Prod.snd (Prod.snd (Prod.fst (Prod.snd val))))))))).1,
                      ()),
                    (Prod.snd (Prod.snd val)).1, (Prod.snd (Prod.snd (Prod.snd val))).1, (((), ()), (), (), ()), ((), ()),
                    (Prod.snd (Prod.snd (Prod.snd (Prod.snd (Prod.snd (Prod.snd val)))))).1,
                    (Prod.snd (Prod.snd (Prod.snd (Prod.snd (Prod.snd (Prod.snd (Prod.snd val))))))).1,
                    (((), ()), (), (), ()),
                    (Prod.snd
                        (Prod.snd (Prod.snd (Prod.snd (Prod.snd (Prod.snd (Prod.snd (Prod.snd (Prod.snd val))))))))).1,
                    (Prod.snd
                        (Prod.snd
                          (Prod.snd (Prod.snd (Prod.snd (Prod.snd (Prod.snd (Prod.snd (Prod.snd (Prod.snd val)))))))))).1,
                    ()))
                fun val =>
                Option.bind
                  ((F12 k) ((), ((3 : Int), (0 : Int), (8 : Int), ()), ())
                    (((Prod.fst (Prod.snd val)).1, (), (), (), (),
                        (Prod.snd (Prod.snd (Prod.snd (Prod.snd (Prod.snd (Prod.fst (Prod.snd val))))))).1,
                        (Prod.snd (Prod.snd (Prod.snd (Prod.snd (Prod.snd (Prod.snd (Prod.fst (Prod.snd val)))))))).1,
                        (Prod.snd
                            (Prod.snd (Prod.snd (Prod.snd (Prod.snd (Prod.snd (Prod.snd (Prod.fst (Prod.snd val))))))))).1,
                        ()),
                      (Prod.snd
                          (Prod.snd
                            (Prod.snd
                              (Prod.snd
                                (Prod.snd (Prod.snd (Prod.snd (Prod.snd (Prod.snd (Prod.snd (Prod.snd val))))))))))).1,
                      (Prod.snd
                          (Prod.snd
                            (Prod.snd
                              (Prod.snd
                                (Prod.snd
                                  (Prod.snd (Prod.snd (Prod.snd (Prod.snd (Prod.snd (Prod.snd (Prod.snd val)))))))))))).1,
                      (((), ()), (), (), ()), ((), ()),
                      (Prod.snd
                          (Prod.snd
                            (Prod.snd
                              (Prod.snd
                                (Prod.snd
                                  (Prod.snd
                                    (Prod.snd
                                      (Prod.snd (Prod.snd (Prod.snd (Prod.snd (Prod.snd (Prod.snd val))))))))))))).1,
                      (Prod.snd
                          (Prod.snd
                            (Prod.snd
                              (Prod.snd
                                (Prod.snd
                                  (Prod.snd
                                    (Prod.snd
                                      (Prod.snd
                                        (Prod.snd (Prod.snd (Prod.snd (Prod.snd (Prod.snd (Prod.snd val)))))))))))))).1,
                      (((), ()), (), (), ()),
                      (Prod.snd
                          (Prod.snd
                            (Prod.snd
                              (Prod.snd
                                (Prod.snd
                                  (Prod.snd
                                    (Prod.snd
                                      (Prod.snd
                                        (Prod.snd
                                          (Prod.snd (Prod.snd (Prod.snd (Prod.snd (Prod.snd (Prod.snd val))))))))))))))).1,
                      (Prod.snd
                          (Prod.snd
                            (Prod.snd
                              (Prod.snd
                                (Prod.snd
                                  (Prod.snd
                                    (Prod.snd
                                      (Prod.snd
                                        (Prod.snd
                                          (Prod.snd
                                            (Prod.snd
                                              (Prod.snd (Prod.snd (Prod.snd (Prod.snd (Prod.snd val)))))))))))))))).1,
                      ()))
                  fun val =>
                  Option.bind
                    (F25 ((), ())
                      (((Prod.fst (Prod.snd val)).1, (), (), (), (),
                          (Prod.snd (Prod.snd (Prod.snd (Prod.snd (Prod.snd (Prod.fst (Prod.snd val))))))).1,
                          (Prod.snd (Prod.snd (Prod.snd (Prod.snd (Prod.snd (Prod.snd (Prod.fst (Prod.snd val)))))))).1,
                          (Prod.snd
                              (Prod.snd
                                (Prod.snd (Prod.snd (Prod.snd (Prod.snd (Prod.snd (Prod.fst (Prod.snd val))))))))).1,
                          ()),
                        (Prod.snd
                            (Prod.snd
                              (Prod.snd
                                (Prod.snd
                                  (Prod.snd (Prod.snd (Prod.snd (Prod.snd (Prod.snd (Prod.snd (Prod.snd val))))))))))).1,
                        (Prod.snd
                            (Prod.snd
                              (Prod.snd
                                (Prod.snd
                                  (Prod.snd
                                    (Prod.snd (Prod.snd (Prod.snd (Prod.snd (Prod.snd (Prod.snd (Prod.snd val)))))))))))).1,
                        (((), ()), (), (), ()), ((), ()),
                        (Prod.snd
                            (Prod.snd
                              (Prod.snd
                                (Prod.snd
                                  (Prod.snd
                                    (Prod.snd
                                      (Prod.snd
                                        (Prod.snd (Prod.snd (Prod.snd (Prod.snd (Prod.snd (Prod.snd val))))))))))))).1,
                        (Prod.snd
                            (Prod.snd
                              (Prod.snd
                                (Prod.snd
                                  (Prod.snd
                                    (Prod.snd
                                      (Prod.snd
                                        (Prod.snd
                                          (Prod.snd (Prod.snd (Prod.snd (Prod.snd (Prod.snd (Prod.snd val)))))))))))))).1,
                        (((), ()), (), (), ()),
                        (Prod.snd
                            (Prod.snd
                              (Prod.snd
                                (Prod.snd
                                  (Prod.snd
                                    (Prod.snd
                                      (Prod.snd
                                        (Prod.snd
                                          (Prod.snd
                                            (Prod.snd
                                              (Prod.snd (Prod.snd (Prod.snd (Prod.snd (Prod.snd val))))))))))))))).1,
                        (Prod.snd
                            (Prod.snd
                              (Prod.snd
                                (Prod.snd
                                  (Prod.snd
                                    (Prod.snd
                                      (Prod.snd
                                        (Prod.snd
                                          (Prod.snd
                                            (Prod.snd
                                              (Prod.snd
                                                (Prod.snd (Prod.snd (Prod.snd (Prod.snd (Prod.snd val)))))))))))))))).1,
                        ()))
                    fun val_2 =>
                    if (Prod.snd (Prod.fst val_2)).1 = true then
                      if decide ((Prod.snd (Prod.snd (Prod.fst (Prod.fst val_2)))).1 = (8 : Int)) = true then
                        Option.bind
                          (F14 ((), ())
                            (((Prod.fst (Prod.snd val)).1, (), (), (), (),
                                (Prod.snd (Prod.snd (Prod.snd (Prod.snd (Prod.snd (Prod.fst (Prod.snd val))))))).1,
                                (Prod.snd
                                    (Prod.snd (Prod.snd (Prod.snd (Prod.snd (Prod.snd (Prod.fst (Prod.snd val)))))))).1,
                                (Prod.snd
                                    (Prod.snd
                                      (Prod.snd (Prod.snd (Prod.snd (Prod.snd (Prod.snd (Prod.fst (Prod.snd val))))))))).1,
                                ()),
                              (Prod.snd
                                  (Prod.snd
                                    (Prod.snd
                                      (Prod.snd
                                        (Prod.snd
                                          (Prod.snd (Prod.snd (Prod.snd (Prod.snd (Prod.snd (Prod.snd val))))))))))).1,
                              (Prod.snd
                                  (Prod.snd
                                    (Prod.snd
                                      (Prod.snd
                                        (Prod.snd
                                          (Prod.snd
                                            (Prod.snd (Prod.snd (Prod.snd (Prod.snd (Prod.snd (Prod.snd val)))))))))))).1,
                              (((), ()), (), (), ()), ((), ()),
                              (Prod.snd
                                  (Prod.snd
                                    (Prod.snd
                                      (Prod.snd
                                        (Prod.snd
                                          (Prod.snd
                                            (Prod.snd
                                              (Prod.snd
                                                (Prod.snd (Prod.snd (Prod.snd (Prod.snd (Prod.snd val))))))))))))).1,
                              (Prod.snd
                                  (Prod.snd
                                    (Prod.snd
                                      (Prod.snd
                                        (Prod.snd
                                          (Prod.snd
                                            (Prod.snd
                                              (Prod.snd
                                                (Prod.snd
                                                  (Prod.snd (Prod.snd (Prod.snd (Prod.snd (Prod.snd val)))))))))))))).1,
                              (((), ()), (), (), ()),
                              (Prod.snd
                                  (Prod.snd
                                    (Prod.snd
                                      (Prod.snd
                                        (Prod.snd
                                          (Prod.snd
                                            (Prod.snd
                                              (Prod.snd
                                                (Prod.snd
                                                  (Prod.snd
                                                    (Prod.snd (Prod.snd (Prod.snd (Prod.snd (Prod.snd val))))))))))))))).1,
                              (Prod.snd
                                  (Prod.snd
                                    (Prod.snd
                                      (Prod.snd
                                        (Prod.snd
                                          (Prod.snd
                                            (Prod.snd
                                              (Prod.snd
                                                (Prod.snd
                                                  (Prod.snd
                                                    (Prod.snd
                                                      (Prod.snd
                                                        (Prod.snd (Prod.snd (Prod.snd (Prod.snd val)))))))))))))))).1,
                              ()))
                          fun val => some (decide (val.1 = (2 : Int)), ())
                      else some (false, ())
                    else some (false, ()))
        val
noncomputable def T11 (K : Nat) : List (Entry Try.prog) := [E9, E10, E12 K, E25, E14]
noncomputable def cuts11 (K : Nat) : List (Cut (AT alts11)) := []
theorem e11 (k : Nat) : ∀ x y, F11 k x y = codeJ Try.prog (tableJ (T11 k)) (Lof 0 k (cuts11 k)) body11 (st0 pin11 os11 x y) (endJ Try.prog 0 [.tmp 0] alts11) := by
  rintro ⟨⟩ ⟨⟩; kernel_rfl
theorem k11 (k : Nat) : FnOK Try.prog 11 pin11 os11 alts11 (F11 k) :=
  fn_ok (fn := Try.f11) (body := body11) (cuts := cuts11 k) (k := k) (C := tableJ (T11 k)) (C' := tableJ (T11 k)) (table_ok _) (table_nat _) (table_ok _) mixed (by kernel_rfl) (by kernel_rfl) (by decide) (by kernel_rfl) (fun x => Nat.le_of_ble_eq_true (by kernel_rfl))
    (fun c h => by cases h) (fun c h => by cases h) (e11 k)
noncomputable def E11 (k : Nat) : Entry Try.prog := ⟨11, pin11, os11, alts11, F11 k, k11 k, rfl⟩
/-! 4 HeapMark -/
abbrev pin4 : VPL := (.cons (.lst true (.many [.int .i64, .int .i64, .int .i64, .int .i64, .int .i64])) (.cons (.int .i64) .nil))
abbrev os4 : List OP := []
abbrev alts4 : List Alt := [(.bool, [])]
abbrev ps4_8 : VPL := (.cons (.lst true (.many [.int .i64, .int .i64, .int .i64, .int .i64, .int .i64])) (.cons (.int .i64) (.cons (.ptr 0 0) (.cons (.int .i64) (.cons .bool (.cons (.int .i64) .nil))))))
abbrev os4_8 : List OP := [.box (.cons (.int .i64) (.cons (.full 1) (.cons (.full 2) (.cons (.ptr 3 0) (.cons (.ptr 7 0) (.cons (.int .u64) (.cons (.int .i64) (.cons .bool .nil)))))))) true, .row (.many [.int .i64, .int .i64, .int .i64, .int .u64]) true, .row (.one (.int .i64)) true, .box (.cons (.fn 22 (.cons (.ptr 4 0) .nil)) (.cons (.full 5) (.cons (.full 6) .nil))) true, .box (.cons (.ptr 0 0) .nil) true, .row (.one (.int .i64)) true, .row (.one (.int .i64)) true, .box (.cons (.fn 24 (.cons (.ptr 4 0) .nil)) (.cons (.full 8) (.cons (.full 9) .nil))) true, .row (.one (.int .i64)) true, .row (.one (.int .i64)) true]
noncomputable def body4 : Code := match Try.f4.body with
  | some c => c
  | none => .skip
def L4_8 (K : Nat) : Nat → ps4_8.T → OPL.T os4_8 → Option (AT alts4)
  | 0, _, _ => none
  | k + 1, (a1, (a2, ((), (a3, (a4, (a5, ())))))), ((a6, ((), ((), ((), ((), (a7, (a8, (a9, ())))))))), (a10, (a11, ((((), ()), ((), ((), ()))), (((), ()), (a12, (a13, ((((), ()), ((), ((), ()))), (a14, (a15, ())))))))))) =>
    if decide (a5 < (↑(List.length a1) : Int)) = true then
      if (0 : Int) ≤ a5 ∧ a5 < (↑(List.length a1) : Int) then
        if
            decide
                ((List.getD (Prod.fst (a1, a2, (), a3, a4, a5, ()))
                      (Int.toNat
                        (Prod.fst (Prod.snd (Prod.snd (Prod.snd (Prod.snd (Prod.snd (a1, a2, (), a3, a4, a5, ()))))))))
                      (EK.dflt
                        (EK.many
                          [SK.int IntKind.i64, SK.int IntKind.i64, SK.int IntKind.i64, SK.int IntKind.i64,
                            SK.int IntKind.i64]))).1 =
                  (2 : Int)) =
              true then
          Option.bind
            ((F13 K) ((), ())
              ((a6, (), (), (), (), a7, a8, a9, ()), a10, a11, (((), ()), (), (), ()), ((), ()), a12, a13,
                (((), ()), (), (), ()), a14, a15, ()))
            fun val =>
            (L4_8 K) k (a1, a2, (), a3, a4, IntKind.wrap IntKind.i64 (a5 + (1 : Int)), ())
              (((Prod.fst (Prod.snd val)).1, (), (), (), (),
                  (Prod.snd (Prod.snd (Prod.snd (Prod.snd (Prod.snd (Prod.fst (Prod.snd val))))))).1,
                  (Prod.snd (Prod.snd (Prod.snd (Prod.snd (Prod.snd (Prod.snd (Prod.fst (Prod.snd val)))))))).1,
                  (Prod.snd (Prod.snd (Prod.snd (Prod.snd (Prod.snd (Prod.snd (Prod.snd (Prod.fst (Prod.snd val))))))))).1,
                  ()),
                (Prod.snd
                    (Prod.snd
                      (Prod.snd
                        (Prod.snd (Prod.snd (Prod.snd (Prod.snd (Prod.snd (Prod.snd (Prod.snd (Prod.snd val))))))))))).1,
                (Prod.snd
                    (Prod.snd
                      (Prod.snd
                        (Prod.snd
                          (Prod.snd (Prod.snd (Prod.snd (Prod.snd (Prod.snd (Prod.snd (Prod.snd (Prod.snd val)))))))))))).1,
                (((), ()), (), (), ()), ((), ()),
                (Prod.snd
                    (Prod.snd
                      (Prod.snd
                        (Prod.snd
                          (Prod.snd
                            (Prod.snd
                              (Prod.snd (Prod.snd (Prod.snd (Prod.snd (Prod.snd (Prod.snd (Prod.snd val))))))))))))).1,
                (Prod.snd
                    (Prod.snd
                      (Prod.snd
                        (Prod.snd
                          (Prod.snd
                            (Prod.snd
                              (Prod.snd
                                (Prod.snd (Prod.snd (Prod.snd (Prod.snd (Prod.snd (Prod.snd (Prod.snd val)))))))))))))).1,
                (((), ()), (), (), ()),
                (Prod.snd
                    (Prod.snd
                      (Prod.snd
                        (Prod.snd
                          (Prod.snd
                            (Prod.snd
                              (Prod.snd
                                (Prod.snd
                                  (Prod.snd
                                    (Prod.snd (Prod.snd (Prod.snd (Prod.snd (Prod.snd (Prod.snd val))))))))))))))).1,
                (Prod.snd
                    (Prod.snd
                      (Prod.snd
                        (Prod.snd
                          (Prod.snd
                            (Prod.snd
                              (Prod.snd
                                (Prod.snd
                                  (Prod.snd
                                    (Prod.snd
                                      (Prod.snd (Prod.snd (Prod.snd (Prod.snd (Prod.snd (Prod.snd val)))))))))))))))).1,
                ())
        else
          Option.bind
            (F14 ((), ())
              ((a6, (), (), (), (), a7, a8, a9, ()), a10, a11, (((), ()), (), (), ()), ((), ()), a12, a13,
                (((), ()), (), (), ()), a14, a15, ()))
            fun val =>
            if (0 : Int) ≤ a5 ∧ a5 < (↑(List.length a1) : Int) then
              Option.bind
                ((F12 K)
                  ((),
                    ((Prod.snd
                          (List.getD (Prod.fst (a1, a2, (), a3, a4, a5, ()))
                            (Int.toNat
                              (Prod.fst
                                (Prod.snd (Prod.snd (Prod.snd (Prod.snd (Prod.snd (a1, a2, (), a3, a4, a5, ()))))))))
                            (EK.dflt
                              (EK.many
                                [SK.int IntKind.i64, SK.int IntKind.i64, SK.int IntKind.i64, SK.int IntKind.i64,
                                  SK.int IntKind.i64])))).1,
                      (Prod.snd
                          (Prod.snd
                            (List.getD (Prod.fst (a1, a2, (), a3, a4, a5, ()))
                              (Int.toNat
                                (Prod.fst
                                  (Prod.snd (Prod.snd (Prod.snd (Prod.snd (Prod.snd (a1, a2, (), a3, a4, a5, ()))))))))
                              (EK.dflt
                                (EK.many
                                  [SK.int IntKind.i64, SK.int IntKind.i64, SK.int IntKind.i64, SK.int IntKind.i64,
                                    SK.int IntKind.i64]))))).1,
                      (Prod.snd
                          (Prod.snd
                            (Prod.snd
                              (List.getD (Prod.fst (a1, a2, (), a3, a4, a5, ()))
                                (Int.toNat
                                  (Prod.fst
                                    (Prod.snd (Prod.snd (Prod.snd (Prod.snd (Prod.snd (a1, a2, (), a3, a4, a5, ()))))))))
                                (EK.dflt
                                  (EK.many
                                    [SK.int IntKind.i64, SK.int IntKind.i64, SK.int IntKind.i64, SK.int IntKind.i64,
                                      SK.int IntKind.i64])))))).1,
                      ()),
                    ())
                  ((a6, (), (), (), (), a7, a8, a9, ()), a10, a11, (((), ()), (), (), ()), ((), ()), a12, a13,
                    (((), ()), (), (), ()), a14, a15, ()))
                fun val_1 =>
                Option.bind
                  (F15 ((), ())
                    (((Prod.fst (Prod.snd val_1)).1, (), (), (), (),
                        (Prod.snd (Prod.snd (Prod.snd (Prod.snd (Prod.snd (Prod.fst (Prod.snd val_1))))))).1,
                        (Prod.snd (Prod.snd (Prod.snd (Prod.snd (Prod.snd (Prod.snd (Prod.fst (Prod.snd val_1)))))))).1,
                        (Prod.snd
                            (Prod.snd
                              (Prod.snd (Prod.snd (Prod.snd (Prod.snd (Prod.snd (Prod.fst (Prod.snd val_1))))))))).1,
                        ()),
                      (Prod.snd
                          (Prod.snd
                            (Prod.snd
                              (Prod.snd
                                (Prod.snd (Prod.snd (Prod.snd (Prod.snd (Prod.snd (Prod.snd (Prod.snd val_1))))))))))).1,
                      (Prod.snd
                          (Prod.snd
                            (Prod.snd
                              (Prod.snd
                                (Prod.snd
                                  (Prod.snd (Prod.snd (Prod.snd (Prod.snd (Prod.snd (Prod.snd (Prod.snd val_1)))))))))))).1,
                      (((), ()), (), (), ()), ((), ()),
                      (Prod.snd
                          (Prod.snd
                            (Prod.snd
                              (Prod.snd
                                (Prod.snd
                                  (Prod.snd
                                    (Prod.snd
                                      (Prod.snd (Prod.snd (Prod.snd (Prod.snd (Prod.snd (Prod.snd val_1))))))))))))).1,
                      (Prod.snd
                          (Prod.snd
                            (Prod.snd
                              (Prod.snd
                                (Prod.snd
                                  (Prod.snd
                                    (Prod.snd
                                      (Prod.snd
                                        (Prod.snd (Prod.snd (Prod.snd (Prod.snd (Prod.snd (Prod.snd val_1)))))))))))))).1,
                      (((), ()), (), (), ()),
                      (Prod.snd
                          (Prod.snd
                            (Prod.snd
                              (Prod.snd
                                (Prod.snd
                                  (Prod.snd
                                    (Prod.snd
                                      (Prod.snd
                                        (Prod.snd
                                          (Prod.snd
                                            (Prod.snd (Prod.snd (Prod.snd (Prod.snd (Prod.snd val_1))))))))))))))).1,
                      (Prod.snd
                          (Prod.snd
                            (Prod.snd
                              (Prod.snd
                                (Prod.snd
                                  (Prod.snd
                                    (Prod.snd
                                      (Prod.snd
                                        (Prod.snd
                                          (Prod.snd
                                            (Prod.snd
                                              (Prod.snd (Prod.snd (Prod.snd (Prod.snd (Prod.snd val_1)))))))))))))))).1,
                      ()))
                  fun val_2 =>
                  Option.bind (F10 ((Prod.snd (Prod.snd (Prod.fst val_1))).1, ()) ()) fun val_3 =>
                    if (!decide (val_3.1 = (0 : Int))) = true then some (false, ())
                    else
                      if (!(Prod.snd (Prod.fst val_2)).1) = true then some (false, ())
                      else
                        if (!(Prod.snd (Prod.fst val_1)).1 == decide (val.1 = a2)) = true then some (false, ())
                        else
                          Option.bind
                            (F14 ((), ())
                              (((Prod.fst (Prod.snd val_1)).1, (), (), (), (),
                                  (Prod.snd (Prod.snd (Prod.snd (Prod.snd (Prod.snd (Prod.fst (Prod.snd val_1))))))).1,
                                  (Prod.snd
                                      (Prod.snd (Prod.snd (Prod.snd (Prod.snd (Prod.snd (Prod.fst (Prod.snd val_1)))))))).1,
                                  (Prod.snd
                                      (Prod.snd
                                        (Prod.snd
                                          (Prod.snd (Prod.snd (Prod.snd (Prod.snd (Prod.fst (Prod.snd val_1))))))))).1,
                                  ()),
                                (Prod.snd
                                    (Prod.snd
                                      (Prod.snd
                                        (Prod.snd
                                          (Prod.snd
                                            (Prod.snd (Prod.snd (Prod.snd (Prod.snd (Prod.snd (Prod.snd val_1))))))))))).1,
                                (Prod.snd
                                    (Prod.snd
                                      (Prod.snd
                                        (Prod.snd
                                          (Prod.snd
                                            (Prod.snd
                                              (Prod.snd
                                                (Prod.snd (Prod.snd (Prod.snd (Prod.snd (Prod.snd val_1)))))))))))).1,
                                (((), ()), (), (), ()), ((), ()),
                                (Prod.snd
                                    (Prod.snd
                                      (Prod.snd
                                        (Prod.snd
                                          (Prod.snd
                                            (Prod.snd
                                              (Prod.snd
                                                (Prod.snd
                                                  (Prod.snd (Prod.snd (Prod.snd (Prod.snd (Prod.snd val_1))))))))))))).1,
                                (Prod.snd
                                    (Prod.snd
                                      (Prod.snd
                                        (Prod.snd
                                          (Prod.snd
                                            (Prod.snd
                                              (Prod.snd
                                                (Prod.snd
                                                  (Prod.snd
                                                    (Prod.snd (Prod.snd (Prod.snd (Prod.snd (Prod.snd val_1)))))))))))))).1,
                                (((), ()), (), (), ()),
                                (Prod.snd
                                    (Prod.snd
                                      (Prod.snd
                                        (Prod.snd
                                          (Prod.snd
                                            (Prod.snd
                                              (Prod.snd
                                                (Prod.snd
                                                  (Prod.snd
                                                    (Prod.snd
                                                      (Prod.snd
                                                        (Prod.snd (Prod.snd (Prod.snd (Prod.snd val_1))))))))))))))).1,
                                (Prod.snd
                                    (Prod.snd
                                      (Prod.snd
                                        (Prod.snd
                                          (Prod.snd
                                            (Prod.snd
                                              (Prod.snd
                                                (Prod.snd
                                                  (Prod.snd
                                                    (Prod.snd
                                                      (Prod.snd
                                                        (Prod.snd
                                                          (Prod.snd (Prod.snd (Prod.snd (Prod.snd val_1)))))))))))))))).1,
                                ()))
                            fun val_4 =>
                            if
                                (!decide
                                      (val_4.1 =
                                        if a2 < IntKind.wrap IntKind.i64 (val.1 + (1 : Int)) then a2
                                        else IntKind.wrap IntKind.i64 (val.1 + (1 : Int)))) =
                                  true then
                              some (false, ())
                            else
                              if (Prod.snd (Prod.fst val_1)).1 = true then
                                Option.bind
                                  (F16
                                    (((Prod.fst (Prod.fst val_1)).1, (Prod.snd (Prod.fst (Prod.fst val_1))).1,
                                        (Prod.snd (Prod.snd (Prod.fst (Prod.fst val_1)))).1, ()),
                                      ((Prod.fst (Prod.fst val_2)).1, (Prod.snd (Prod.fst (Prod.fst val_2))).1,
                                        (Prod.snd (Prod.snd (Prod.fst (Prod.fst val_2)))).1, ()),
                                      ())
                                    ())
                                  fun val =>
                                  if (!val.1) = true then some (false, ())
                                  else
                                    if (!a4) = true then
                                      Option.bind
                                        (F17 ((), ())
                                          (((Prod.fst (Prod.snd val_1)).1, (), (), (), (),
                                              (Prod.snd
                                                  (Prod.snd
                                                    (Prod.snd (Prod.snd (Prod.snd (Prod.fst (Prod.snd val_1))))))).1,
                                              (Prod.snd
                                                  (Prod.snd
                                                    (Prod.snd
                                                      (Prod.snd (Prod.snd (Prod.snd (Prod.fst (Prod.snd val_1)))))))).1,
                                              (Prod.snd
                                                  (Prod.snd
                                                    (Prod.snd
                                                      (Prod.snd
                                                        (Prod.snd (Prod.snd (Prod.snd (Prod.fst (Prod.snd val_1))))))))).1,
                                              ()),
                                            (Prod.snd
                                                (Prod.snd
                                                  (Prod.snd
                                                    (Prod.snd
                                                      (Prod.snd
                                                        (Prod.snd
                                                          (Prod.snd
                                                            (Prod.snd (Prod.snd (Prod.snd (Prod.snd val_1))))))))))).1,
                                            (Prod.snd
                                                (Prod.snd
                                                  (Prod.snd
                                                    (Prod.snd
                                                      (Prod.snd
                                                        (Prod.snd
                                                          (Prod.snd
                                                            (Prod.snd
                                                              (Prod.snd (Prod.snd (Prod.snd (Prod.snd val_1)))))))))))).1,
                                            (((), ()), (), (), ()), ((), ()),
                                            (Prod.snd
                                                (Prod.snd
                                                  (Prod.snd
                                                    (Prod.snd
                                                      (Prod.snd
                                                        (Prod.snd
                                                          (Prod.snd
                                                            (Prod.snd
                                                              (Prod.snd
                                                                (Prod.snd
                                                                  (Prod.snd (Prod.snd (Prod.snd val_1))))))))))))).1,
                                            (Prod.snd
                                                (Prod.snd
                                                  (Prod.snd
                                                    (Prod.snd
                                                      (Prod.snd
                                                        (Prod.snd
                                                          (Prod.snd
                                                            (Prod.snd
                                                              (Prod.snd
                                                                (Prod.snd
                                                                  (Prod.snd
                                                                    (Prod.snd (Prod.snd (Prod.snd val_1)))))))))))))).1,
                                            (((), ()), (), (), ()),
                                            (Prod.snd
                                                (Prod.snd
                                                  (Prod.snd
                                                    (Prod.snd
                                                      (Prod.snd
                                                        (Prod.snd
                                                          (Prod.snd
                                                            (Prod.snd
                                                              (Prod.snd
                                                                (Prod.snd
                                                                  (Prod.snd
                                                                    (Prod.snd
                                                                      (Prod.snd (Prod.snd (Prod.snd val_1))))))))))))))).1,
                                            (Prod.snd
                                                (Prod.snd
                                                  (Prod.snd
                                                    (Prod.snd
                                                      (Prod.snd
                                                        (Prod.snd
                                                          (Prod.snd
                                                            (Prod.snd
                                                              (Prod.snd
                                                                (Prod.snd
                                                                  (Prod.snd
                                                                    (Prod.snd
                                                                      (Prod.snd
                                                                        (Prod.snd
                                                                          (Prod.snd (Prod.snd val_1)))))))))))))))).1,
                                            ()))
                                        fun val =>
                                        if (!(Prod.snd (Prod.fst val)).1 == true) = true then some (false, ())
                                        else
                                          if (!decide ((Prod.fst val).1 = (Prod.fst (Prod.fst val_1)).1)) = true then
                                            some (false, ())
                                          else
                                            (L4_8 K) k
                                              (a1, a2, (), (Prod.fst (Prod.fst val_1)).1, true,
                                                IntKind.wrap IntKind.i64 (a5 + (1 : Int)), ())
                                              (((Prod.fst (Prod.snd val_1)).1, (), (), (), (),
                                                  (Prod.snd
                                                      (Prod.snd
                                                        (Prod.snd (Prod.snd (Prod.snd (Prod.fst (Prod.snd val_1))))))).1,
                                                  (Prod.snd
                                                      (Prod.snd
                                                        (Prod.snd
                                                          (Prod.snd (Prod.snd (Prod.snd (Prod.fst (Prod.snd val_1)))))))).1,
                                                  (Prod.snd
                                                      (Prod.snd
                                                        (Prod.snd
                                                          (Prod.snd
                                                            (Prod.snd
                                                              (Prod.snd (Prod.snd (Prod.fst (Prod.snd val_1))))))))).1,
                                                  ()),
                                                (Prod.snd
                                                    (Prod.snd
                                                      (Prod.snd
                                                        (Prod.snd
                                                          (Prod.snd
                                                            (Prod.snd
                                                              (Prod.snd
                                                                (Prod.snd (Prod.snd (Prod.snd (Prod.snd val_1))))))))))).1,
                                                (Prod.snd
                                                    (Prod.snd
                                                      (Prod.snd
                                                        (Prod.snd
                                                          (Prod.snd
                                                            (Prod.snd
                                                              (Prod.snd
                                                                (Prod.snd
                                                                  (Prod.snd
                                                                    (Prod.snd (Prod.snd (Prod.snd val_1)))))))))))).1,
                                                (((), ()), (), (), ()), ((), ()),
                                                (Prod.snd
                                                    (Prod.snd
                                                      (Prod.snd
                                                        (Prod.snd
                                                          (Prod.snd
                                                            (Prod.snd
                                                              (Prod.snd
                                                                (Prod.snd
                                                                  (Prod.snd
                                                                    (Prod.snd
                                                                      (Prod.snd (Prod.snd (Prod.snd val_1))))))))))))).1,
                                                (Prod.snd
                                                    (Prod.snd
                                                      (Prod.snd
                                                        (Prod.snd
                                                          (Prod.snd
                                                            (Prod.snd
                                                              (Prod.snd
                                                                (Prod.snd
                                                                  (Prod.snd
                                                                    (Prod.snd
                                                                      (Prod.snd
                                                                        (Prod.snd (Prod.snd (Prod.snd val_1)))))))))))))).1,
                                                (((), ()), (), (), ()),
                                                (Prod.snd
                                                    (Prod.snd
                                                      (Prod.snd
                                                        (Prod.snd
                                                          (Prod.snd
                                                            (Prod.snd
                                                              (Prod.snd
                                                                (Prod.snd
                                                                  (Prod.snd
                                                                    (Prod.snd
                                                                      (Prod.snd
                                                                        (Prod.snd
                                                                          (Prod.snd
                                                                            (Prod.snd (Prod.snd val_1))))))))))))))).1,
                                                (Prod.snd
                                                    (Prod.snd
                                                      (Prod.snd
                                                        (Prod.snd
                                                          (Prod.snd
                                                            (Prod.snd
                                                              (Prod.snd
                                                                (Prod.snd
                                                                  (Prod.snd
                                                                    (Prod.snd
                                                                      (Prod.snd
                                                                        (Prod.snd
                                                                          (Prod.snd
                                                                            (Prod.snd
                                                                              (Prod.snd (Prod.snd val_1)))))))))))))))).1,
                                                ())
                                    else
                                      if decide (a3 < (Prod.fst (Prod.fst val_1)).1) = true then
                                        Option.bind
                                          (F17 ((), ())
                                            (((Prod.fst (Prod.snd val_1)).1, (), (), (), (),
                                                (Prod.snd
                                                    (Prod.snd
                                                      (Prod.snd (Prod.snd (Prod.snd (Prod.fst (Prod.snd val_1))))))).1,
                                                (Prod.snd
                                                    (Prod.snd
                                                      (Prod.snd
                                                        (Prod.snd (Prod.snd (Prod.snd (Prod.fst (Prod.snd val_1)))))))).1,
                                                (Prod.snd
                                                    (Prod.snd
                                                      (Prod.snd
                                                        (Prod.snd
                                                          (Prod.snd
                                                            (Prod.snd (Prod.snd (Prod.fst (Prod.snd val_1))))))))).1,
                                                ()),
                                              (Prod.snd
                                                  (Prod.snd
                                                    (Prod.snd
                                                      (Prod.snd
                                                        (Prod.snd
                                                          (Prod.snd
                                                            (Prod.snd
                                                              (Prod.snd (Prod.snd (Prod.snd (Prod.snd val_1))))))))))).1,
                                              (Prod.snd
                                                  (Prod.snd
                                                    (Prod.snd
                                                      (Prod.snd
                                                        (Prod.snd
                                                          (Prod.snd
                                                            (Prod.snd
                                                              (Prod.snd
                                                                (Prod.snd (Prod.snd (Prod.snd (Prod.snd val_1)))))))))))).1,
                                              (((), ()), (), (), ()), ((), ()),
                                              (Prod.snd
                                                  (Prod.snd
                                                    (Prod.snd
                                                      (Prod.snd
                                                        (Prod.snd
                                                          (Prod.snd
                                                            (Prod.snd
                                                              (Prod.snd
                                                                (Prod.snd
                                                                  (Prod.snd
                                                                    (Prod.snd (Prod.snd (Prod.snd val_1))))))))))))).1,
                                              (Prod.snd
                                                  (Prod.snd
                                                    (Prod.snd
                                                      (Prod.snd
                                                        (Prod.snd
                                                          (Prod.snd
                                                            (Prod.snd
                                                              (Prod.snd
                                                                (Prod.snd
                                                                  (Prod.snd
                                                                    (Prod.snd
                                                                      (Prod.snd (Prod.snd (Prod.snd val_1)))))))))))))).1,
                                              (((), ()), (), (), ()),
                                              (Prod.snd
                                                  (Prod.snd
                                                    (Prod.snd
                                                      (Prod.snd
                                                        (Prod.snd
                                                          (Prod.snd
                                                            (Prod.snd
                                                              (Prod.snd
                                                                (Prod.snd
                                                                  (Prod.snd
                                                                    (Prod.snd
                                                                      (Prod.snd
                                                                        (Prod.snd
                                                                          (Prod.snd (Prod.snd val_1))))))))))))))).1,
                                              (Prod.snd
                                                  (Prod.snd
                                                    (Prod.snd
                                                      (Prod.snd
                                                        (Prod.snd
                                                          (Prod.snd
                                                            (Prod.snd
                                                              (Prod.snd
                                                                (Prod.snd
                                                                  (Prod.snd
                                                                    (Prod.snd
                                                                      (Prod.snd
                                                                        (Prod.snd
                                                                          (Prod.snd
                                                                            (Prod.snd (Prod.snd val_1)))))))))))))))).1,
                                              ()))
                                          fun val =>
                                          if (!(Prod.snd (Prod.fst val)).1 == true) = true then some (false, ())
                                          else
                                            if (!decide ((Prod.fst val).1 = (Prod.fst (Prod.fst val_1)).1)) = true then
                                              some (false, ())
                                            else
                                              (L4_8 K) k
                                                (a1, a2, (), (Prod.fst (Prod.fst val_1)).1, true,
                                                  IntKind.wrap IntKind.i64 (a5 + (1 : Int)), ())
                                                (((Prod.fst (Prod.snd val_1)).1, (), (), (), (),
                                                    (Prod.snd
                                                        (Prod.snd
                                                          (Prod.snd (Prod.snd (Prod.snd (Prod.fst (Prod.snd val_1))))))).1,
                                                    (Prod.snd
                                                        (Prod.snd
                                                          (Prod.snd
                                                            (Prod.snd
                                                              (Prod.snd (Prod.snd (Prod.fst (Prod.snd val_1)))))))).1,
                                                    (Prod.snd
                                                        (Prod.snd
                                                          (Prod.snd
                                                            (Prod.snd
                                                              (Prod.snd
                                                                (Prod.snd (Prod.snd (Prod.fst (Prod.snd val_1))))))))).1,
                                                    ()),
                                                  (Prod.snd
                                                      (Prod.snd
                                                        (Prod.snd
                                                          (Prod.snd
                                                            (Prod.snd
                                                              (Prod.snd
                                                                (Prod.snd
                                                                  (Prod.snd
                                                                    (Prod.snd (Prod.snd (Prod.snd val_1))))))))))).1,
                                                  (Prod.snd
                                                      (Prod.snd
                                                        (Prod.snd
                                                          (Prod.snd
                                                            (Prod.snd
                                                              (Prod.snd
                                                                (Prod.snd
                                                                  (Prod.snd
                                                                    (Prod.snd
                                                                      (Prod.snd (Prod.snd (Prod.snd val_1)))))))))))).1,
                                                  (((), ()), (), (), ()), ((), ()),
                                                  (Prod.snd
                                                      (Prod.snd
                                                        (Prod.snd
                                                          (Prod.snd
                                                            (Prod.snd
                                                              (Prod.snd
                                                                (Prod.snd
                                                                  (Prod.snd
                                                                    (Prod.snd
                                                                      (Prod.snd
                                                                        (Prod.snd (Prod.snd (Prod.snd val_1))))))))))))).1,
                                                  (Prod.snd
                                                      (Prod.snd
                                                        (Prod.snd
                                                          (Prod.snd
                                                            (Prod.snd
                                                              (Prod.snd
                                                                (Prod.snd
                                                                  (Prod.snd
                                                                    (Prod.snd
                                                                      (Prod.snd
                                                                        (Prod.snd
                                                                          (Prod.snd
                                                                            (Prod.snd (Prod.snd val_1)))))))))))))).1,
                                                  (((), ()), (), (), ()),
                                                  (Prod.snd
                                                      (Prod.snd
                                                        (Prod.snd
                                                          (Prod.snd
                                                            (Prod.snd
                                                              (Prod.snd
                                                                (Prod.snd
                                                                  (Prod.snd
                                                                    (Prod.snd
                                                                      (Prod.snd
                                                                        (Prod.snd
                                                                          (Prod.snd
                                                                            (Prod.snd
                                                                              (Prod.snd (Prod.snd val_1))))))))))))))).1,
                                                  (Prod.snd
                                                      (Prod.snd
                                                        (Prod.snd
                                                          (Prod.snd
                                                            (Prod.snd
                                                              (Prod.snd
                                                                (Prod.snd
                                                                  (Prod.snd
                                                                    (Prod.snd
                                                                      (Prod.snd
                                                                        (Prod.snd
                                                                          (Prod.snd
                                                                            (Prod.snd
                                                                              (Prod.snd
                                                                                (Prod.snd (Prod.snd val_1)))))))))))))))).1,
                                                  ())
                                      else
                                        Option.bind
                                          (F17 ((), ())
                                            (((Prod.fst (Prod.snd val_1)).1, (), (), (), (),
                                                (Prod.snd
                                                    (Prod.snd
                                                      (Prod.snd (Prod.snd (Prod.snd (Prod.fst (Prod.snd val_1))))))).1,
                                                (Prod.snd
                                                    (Prod.snd
                                                      (Prod.snd
                                                        (Prod.snd (Prod.snd (Prod.snd (Prod.fst (Prod.snd val_1)))))))).1,
                                                (Prod.snd
                                                    (Prod.snd
                                                      (Prod.snd
                                                        (Prod.snd
                                                          (Prod.snd
                                                            (Prod.snd (Prod.snd (Prod.fst (Prod.snd val_1))))))))).1,
                                                ()),
                                              (Prod.snd
                                                  (Prod.snd
                                                    (Prod.snd
                                                      (Prod.snd
                                                        (Prod.snd
                                                          (Prod.snd
                                                            (Prod.snd
                                                              (Prod.snd (Prod.snd (Prod.snd (Prod.snd val_1))))))))))).1,
                                              (Prod.snd
                                                  (Prod.snd
                                                    (Prod.snd
                                                      (Prod.snd
                                                        (Prod.snd
                                                          (Prod.snd
                                                            (Prod.snd
                                                              (Prod.snd
                                                                (Prod.snd (Prod.snd (Prod.snd (Prod.snd val_1)))))))))))).1,
                                              (((), ()), (), (), ()), ((), ()),
                                              (Prod.snd
                                                  (Prod.snd
                                                    (Prod.snd
                                                      (Prod.snd
                                                        (Prod.snd
                                                          (Prod.snd
                                                            (Prod.snd
                                                              (Prod.snd
                                                                (Prod.snd
                                                                  (Prod.snd
                                                                    (Prod.snd (Prod.snd (Prod.snd val_1))))))))))))).1,
                                              (Prod.snd
                                                  (Prod.snd
                                                    (Prod.snd
                                                      (Prod.snd
                                                        (Prod.snd
                                                          (Prod.snd
                                                            (Prod.snd
                                                              (Prod.snd
                                                                (Prod.snd
                                                                  (Prod.snd
                                                                    (Prod.snd
                                                                      (Prod.snd (Prod.snd (Prod.snd val_1)))))))))))))).1,
                                              (((), ()), (), (), ()),
                                              (Prod.snd
                                                  (Prod.snd
                                                    (Prod.snd
                                                      (Prod.snd
                                                        (Prod.snd
                                                          (Prod.snd
                                                            (Prod.snd
                                                              (Prod.snd
                                                                (Prod.snd
                                                                  (Prod.snd
                                                                    (Prod.snd
                                                                      (Prod.snd
                                                                        (Prod.snd
                                                                          (Prod.snd (Prod.snd val_1))))))))))))))).1,
                                              (Prod.snd
                                                  (Prod.snd
                                                    (Prod.snd
                                                      (Prod.snd
                                                        (Prod.snd
                                                          (Prod.snd
                                                            (Prod.snd
                                                              (Prod.snd
                                                                (Prod.snd
                                                                  (Prod.snd
                                                                    (Prod.snd
                                                                      (Prod.snd
                                                                        (Prod.snd
                                                                          (Prod.snd
                                                                            (Prod.snd (Prod.snd val_1)))))))))))))))).1,
                                              ()))
                                          fun val =>
                                          if (!(Prod.snd (Prod.fst val)).1 == true) = true then some (false, ())
                                          else
                                            if (!decide ((Prod.fst val).1 = a3)) = true then some (false, ())
                                            else
                                              (L4_8 K) k (a1, a2, (), a3, true, IntKind.wrap IntKind.i64 (a5 + (1 : Int)), ())
                                                (((Prod.fst (Prod.snd val_1)).1, (), (), (), (),
                                                    (Prod.snd
                                                        (Prod.snd
                                                          (Prod.snd (Prod.snd (Prod.snd (Prod.fst (Prod.snd val_1))))))).1,
                                                    (Prod.snd
                                                        (Prod.snd
                                                          (Prod.snd
                                                            (Prod.snd
                                                              (Prod.snd (Prod.snd (Prod.fst (Prod.snd val_1)))))))).1,
                                                    (Prod.snd
                                                        (Prod.snd
                                                          (Prod.snd
                                                            (Prod.snd
                                                              (Prod.snd
                                                                (Prod.snd (Prod.snd (Prod.fst (Prod.snd val_1))))))))).1,
                                                    ()),
                                                  (Prod.snd
                                                      (Prod.snd
                                                        (Prod.snd
                                                          (Prod.snd
                                                            (Prod.snd
                                                              (Prod.snd
                                                                (Prod.snd
                                                                  (Prod.snd
                                                                    (Prod.snd (Prod.snd (Prod.snd val_1))))))))))).1,
                                                  (Prod.snd
                                                      (Prod.snd
                                                        (Prod.snd
                                                          (Prod.snd
                                                            (Prod.snd
                                                              (Prod.snd
                                                                (Prod.snd
                                                                  (Prod.snd
                                                                    (Prod.snd
                                                                      (Prod.snd (Prod.snd (Prod.snd val_1)))))))))))).1,
                                                  (((), ()), (), (), ()), ((), ()),
                                                  (Prod.snd
                                                      (Prod.snd
                                                        (Prod.snd
                                                          (Prod.snd
                                                            (Prod.snd
                                                              (Prod.snd
                                                                (Prod.snd
                                                                  (Prod.snd
                                                                    (Prod.snd
                                                                      (Prod.snd
                                                                        (Prod.snd (Prod.snd (Prod.snd val_1))))))))))))).1,
                                                  (Prod.snd
                                                      (Prod.snd
                                                        (Prod.snd
                                                          (Prod.snd
                                                            (Prod.snd
                                                              (Prod.snd
                                                                (Prod.snd
                                                                  (Prod.snd
                                                                    (Prod.snd
                                                                      (Prod.snd
                                                                        (Prod.snd
                                                                          (Prod.snd
                                                                            (Prod.snd (Prod.snd val_1)))))))))))))).1,
                                                  (((), ()), (), (), ()),
                                                  (Prod.snd
                                                      (Prod.snd
                                                        (Prod.snd
                                                          (Prod.snd
                                                            (Prod.snd
                                                              (Prod.snd
                                                                (Prod.snd
                                                                  (Prod.snd
                                                                    (Prod.snd
                                                                      (Prod.snd
                                                                        (Prod.snd
                                                                          (Prod.snd
                                                                            (Prod.snd
                                                                              (Prod.snd (Prod.snd val_1))))))))))))))).1,
                                                  (Prod.snd
                                                      (Prod.snd
                                                        (Prod.snd
                                                          (Prod.snd
                                                            (Prod.snd
                                                              (Prod.snd
                                                                (Prod.snd
                                                                  (Prod.snd
                                                                    (Prod.snd
                                                                      (Prod.snd
                                                                        (Prod.snd
                                                                          (Prod.snd
                                                                            (Prod.snd
                                                                              (Prod.snd
                                                                                (Prod.snd (Prod.snd val_1)))))))))))))))).1,
                                                  ())
                              else
                                Option.bind
                                  (F17 ((), ())
                                    (((Prod.fst (Prod.snd val_1)).1, (), (), (), (),
                                        (Prod.snd
                                            (Prod.snd (Prod.snd (Prod.snd (Prod.snd (Prod.fst (Prod.snd val_1))))))).1,
                                        (Prod.snd
                                            (Prod.snd
                                              (Prod.snd (Prod.snd (Prod.snd (Prod.snd (Prod.fst (Prod.snd val_1)))))))).1,
                                        (Prod.snd
                                            (Prod.snd
                                              (Prod.snd
                                                (Prod.snd
                                                  (Prod.snd (Prod.snd (Prod.snd (Prod.fst (Prod.snd val_1))))))))).1,
                                        ()),
                                      (Prod.snd
                                          (Prod.snd
                                            (Prod.snd
                                              (Prod.snd
                                                (Prod.snd
                                                  (Prod.snd
                                                    (Prod.snd (Prod.snd (Prod.snd (Prod.snd (Prod.snd val_1))))))))))).1,
                                      (Prod.snd
                                          (Prod.snd
                                            (Prod.snd
                                              (Prod.snd
                                                (Prod.snd
                                                  (Prod.snd
                                                    (Prod.snd
                                                      (Prod.snd (Prod.snd (Prod.snd (Prod.snd (Prod.snd val_1)))))))))))).1,
                                      (((), ()), (), (), ()), ((), ()),
                                      (Prod.snd
                                          (Prod.snd
                                            (Prod.snd
                                              (Prod.snd
                                                (Prod.snd
                                                  (Prod.snd
                                                    (Prod.snd
                                                      (Prod.snd
                                                        (Prod.snd
                                                          (Prod.snd (Prod.snd (Prod.snd (Prod.snd val_1))))))))))))).1,
                                      (Prod.snd
                                          (Prod.snd
                                            (Prod.snd
                                              (Prod.snd
                                                (Prod.snd
                                                  (Prod.snd
                                                    (Prod.snd
                                                      (Prod.snd
                                                        (Prod.snd
                                                          (Prod.snd
                                                            (Prod.snd (Prod.snd (Prod.snd (Prod.snd val_1)))))))))))))).1,
                                      (((), ()), (), (), ()),
                                      (Prod.snd
                                          (Prod.snd
                                            (Prod.snd
                                              (Prod.snd
                                                (Prod.snd
                                                  (Prod.snd
                                                    (Prod.snd
                                                      (Prod.snd
                                                        (Prod.snd
                                                          (Prod.snd
                                                            (Prod.snd
                                                              (Prod.snd
                                                                (Prod.snd (Prod.snd (Prod.snd val_1))))))))))))))).1,
                                      (Prod.snd
                                          (Prod.snd
                                            (Prod.snd
                                              (Prod.snd
                                                (Prod.snd
                                                  (Prod.snd
                                                    (Prod.snd
                                                      (Prod.snd
                                                        (Prod.snd
                                                          (Prod.snd
                                                            (Prod.snd
                                                              (Prod.snd
                                                                (Prod.snd
                                                                  (Prod.snd (Prod.snd (Prod.snd val_1)))))))))))))))).1,
                                      ()))
                                  fun val =>
                                  if (!(Prod.snd (Prod.fst val)).1 == a4) = true then some (false, ())
                                  else
                                    if (!decide ((Prod.fst val).1 = a3)) = true then some (false, ())
                                    else
                                      (L4_8 K) k (a1, a2, (), a3, a4, IntKind.wrap IntKind.i64 (a5 + (1 : Int)), ())
                                        (((Prod.fst (Prod.snd val_1)).1, (), (), (), (),
                                            (Prod.snd
                                                (Prod.snd (Prod.snd (Prod.snd (Prod.snd (Prod.fst (Prod.snd val_1))))))).1,
                                            (Prod.snd
                                                (Prod.snd
                                                  (Prod.snd
                                                    (Prod.snd (Prod.snd (Prod.snd (Prod.fst (Prod.snd val_1)))))))).1,
                                            (Prod.snd
                                                (Prod.snd
                                                  (Prod.snd
                                                    (Prod.snd
                                                      (Prod.snd (Prod.snd (Prod.snd (Prod.fst (Prod.snd val_1))))))))).1,
                                            ()),
                                          (Prod.snd
                                              (Prod.snd
                                                (Prod.snd
                                                  (Prod.snd
                                                    (Prod.snd
                                                      (Prod.snd
                                                        (Prod.snd
                                                          (Prod.snd (Prod.snd (Prod.snd (Prod.snd val_1))))))))))).1,
                                          (Prod.snd
                                              (Prod.snd
                                                (Prod.snd
                                                  (Prod.snd
                                                    (Prod.snd
                                                      (Prod.snd
                                                        (Prod.snd
                                                          (Prod.snd
                                                            (Prod.snd (Prod.snd (Prod.snd (Prod.snd val_1)))))))))))).1,
                                          (((), ()), (), (), ()), ((), ()),
                                          (Prod.snd
                                              (Prod.snd
                                                (Prod.snd
                                                  (Prod.snd
                                                    (Prod.snd
                                                      (Prod.snd
                                                        (Prod.snd
                                                          (Prod.snd
                                                            (Prod.snd
                                                              (Prod.snd (Prod.snd (Prod.snd (Prod.snd val_1))))))))))))).1,
                                          (Prod.snd
                                              (Prod.snd
                                                (Prod.snd
                                                  (Prod.snd
                                                    (Prod.snd
                                                      (Prod.snd
                                                        (Prod.snd
                                                          (Prod.snd
                                                            (Prod.snd
                                                              (Prod.snd
                                                                (Prod.snd
                                                                  (Prod.snd (Prod.snd (Prod.snd val_1)))))))))))))).1,
                                          (((), ()), (), (), ()),
                                          (Prod.snd
                                              (Prod.snd
                                                (Prod.snd
                                                  (Prod.snd
                                                    (Prod.snd
                                                      (Prod.snd
                                                        (Prod.snd
                                                          (Prod.snd
                                                            (Prod.snd
                                                              (Prod.snd
                                                                (Prod.snd
                                                                  (Prod.snd
                                                                    (Prod.snd (Prod.snd (Prod.snd val_1))))))))))))))).1,
                                          (Prod.snd
                                              (Prod.snd
                                                (Prod.snd
                                                  (Prod.snd
                                                    (Prod.snd
                                                      (Prod.snd
                                                        (Prod.snd
                                                          (Prod.snd
                                                            (Prod.snd
                                                              (Prod.snd
                                                                (Prod.snd
                                                                  (Prod.snd
                                                                    (Prod.snd
                                                                      (Prod.snd (Prod.snd (Prod.snd val_1)))))))))))))))).1,
                                          ())
            else none
      else none
    else some (true, ())
def F4 (k : Nat) : pin4.T → OPL.T os4 → Option (AT alts4)
  | (a1, (a2, ())), () =>
    Option.bind
      (F9
        (IntKind.wrap IntKind.i64
            ((1 : Int) + Int.tmod (IntKind.wrap IntKind.i64 (Int.tmod a2 (65536 : Int) + (65536 : Int))) (65536 : Int)),
          ())
        ())
      fun val =>
      Sum.elim
        (fun val =>
          Option.bind (F10 ((Prod.snd (Prod.fst val)).1, ()) ()) fun val =>
            if (!decide (val.1 = (0 : Int))) = true then some (false, ()) else some (false, ()))
        (fun val =>
          Option.bind (F10 ((Prod.snd (Prod.fst val)).1, ()) ()) fun val_1 =>
            if (!decide (val_1.1 = (0 : Int))) = true then some (false, ())
            else
              Option.bind ((F11 k) () ()) fun val_2 =>
                if (!val_2.1) = true then some (false, ())
                else
                  (L4_8 k) k
                    (a1,
                      IntKind.wrap IntKind.i64
                        ((1 : Int) +
                          Int.tmod (IntKind.wrap IntKind.i64 (Int.tmod a2 (65536 : Int) + (65536 : Int))) (65536 : Int)),
                      (), (0 : Int), false, (0 : Int), ())
                    (((Prod.fst (Prod.snd val)).1, (), (), (), (),
                        (Prod.snd (Prod.snd (Prod.snd (Prod.snd (Prod.snd (Prod.fst (Prod.snd val))))))).1,
                        (Prod.snd (Prod.snd (Prod.snd (Prod.snd (Prod.snd (Prod.snd (Prod.fst (Prod.snd val)))))))).1,
                        (Prod.snd
                            (Prod.snd (Prod.snd (Prod.snd (Prod.snd (Prod.snd (Prod.snd (Prod.fst (Prod.snd val))))))))).1,
                        ()),
                      (Prod.snd (Prod.snd val)).1, (Prod.snd (Prod.snd (Prod.snd val))).1, (((), ()), (), (), ()), ((), ()),
                      (Prod.snd (Prod.snd (Prod.snd (Prod.snd (Prod.snd (Prod.snd val)))))).1,
                      (Prod.snd (Prod.snd (Prod.snd (Prod.snd (Prod.snd (Prod.snd (Prod.snd val))))))).1,
                      (((), ()), (), (), ()),
                      (Prod.snd
                          (Prod.snd (Prod.snd (Prod.snd (Prod.snd (Prod.snd (Prod.snd (Prod.snd (Prod.snd val))))))))).1,
                      (Prod.snd
                          (Prod.snd
                            (Prod.snd (Prod.snd (Prod.snd (Prod.snd (Prod.snd (Prod.snd (Prod.snd (Prod.snd val)))))))))).1,
                      ()))
        val
noncomputable def T4 (K : Nat) : List (Entry Try.prog) := [E9, E10, E11 K, E13 K, E14, E12 K, E15, E16, E17]
noncomputable def cuts4 (K : Nat) : List (Cut (AT alts4)) := [⟨8, [0, 1, 5, 7, 8, 9], ps4_8, os4_8, L4_8 K⟩]
theorem s4_8 (K : Nat) : ∀ k x y, L4_8 K (k + 1) x y = roundJ Try.prog (tableJ (T4 K)) (Lof 0 k (cuts4 K)) 8 body4 (endJ Try.prog 0 [.tmp 4] alts4) (stAt [0, 1, 5, 7, 8, 9] ps4_8 os4_8 x y) := by
  rintro k ⟨a1, ⟨a2, ⟨⟨⟩, ⟨a3, ⟨a4, ⟨a5, ⟨⟩⟩⟩⟩⟩⟩⟩ ⟨⟨a6, ⟨⟨⟩, ⟨⟨⟩, ⟨⟨⟩, ⟨⟨⟩, ⟨a7, ⟨a8, ⟨a9, ⟨⟩⟩⟩⟩⟩⟩⟩⟩⟩, ⟨a10, ⟨a11, ⟨⟨⟨⟨⟩, ⟨⟩⟩, ⟨⟨⟩, ⟨⟨⟩, ⟨⟩⟩⟩⟩, ⟨⟨⟨⟩, ⟨⟩⟩, ⟨a12, ⟨a13, ⟨⟨⟨⟨⟩, ⟨⟩⟩, ⟨⟨⟩, ⟨⟨⟩, ⟨⟩⟩⟩⟩, ⟨a14, ⟨a15, ⟨⟩⟩⟩⟩⟩⟩⟩⟩⟩⟩⟩; kernel_rfl
theorem e4 (k : Nat) : ∀ x y, F4 k x y = codeJ Try.prog (tableJ (T4 k)) (Lof 0 k (cuts4 k)) body4 (st0 pin4 os4 x y) (endJ Try.prog 0 [.tmp 4] alts4) := by
  rintro ⟨a1, ⟨a2, ⟨⟩⟩⟩ ⟨⟩; kernel_rfl
theorem k4 (k : Nat) : FnOK Try.prog 4 pin4 os4 alts4 (F4 k) :=
  fn_ok (fn := Try.f4) (body := body4) (cuts := cuts4 k) (k := k) (C := tableJ (T4 k)) (C' := tableJ (T4 k)) (table_ok _) (table_nat _) (table_ok _) mixed (by kernel_rfl) (by kernel_rfl) (by decide) (by kernel_rfl) (fun x => Nat.le_of_ble_eq_true (by kernel_rfl))
    (List.forall_mem_cons.2 ⟨fun x y => rfl, fun c h => by cases h⟩) (List.forall_mem_cons.2 ⟨s4_8 k, fun c h => by cases h⟩) (e4 k)
noncomputable def E4 (k : Nat) : Entry Try.prog := ⟨4, pin4, os4, alts4, F4 k, k4 k, rfl⟩
/-! 3 HeapSorts -/
abbrev pin3 : VPL := (.cons (.lst true (.many [.int .i64, .int .i64, .int .i64])) (.cons (.int .i64) .nil))
abbrev os3 : List OP := []
abbrev alts3 : List Alt := [(.bool, [])]
abbrev ps3_8 : VPL := (.cons (.lst true (.many [.int .i64, .int .i64, .int .i64])) (.cons (.int .i64) (.cons (.int .i64) (.cons (.ptr 0 0) (.cons (.full 10) (.cons (.int .i64) .nil))))))
abbrev os3_8 : List OP := [.box (.cons (.int .i64) (.cons (.full 1) (.cons (.full 2) (.cons (.ptr 3 0) (.cons (.ptr 7 0) (.cons (.int .u64) (.cons (.int .i64) (.cons .bool .nil)))))))) true, .row (.many [.int .i64, .int .i64, .int .i64, .int .u64]) true, .row (.one (.int .i64)) true, .box (.cons (.fn 22 (.cons (.ptr 4 0) .nil)) (.cons (.full 5) (.cons (.full 6) .nil))) true, .box (.cons (.ptr 0 0) .nil) true, .row (.one (.int .i64)) true, .row (.one (.int .i64)) true, .box (.cons (.fn 24 (.cons (.ptr 4 0) .nil)) (.cons (.full 8) (.cons (.full 9) .nil))) true, .row (.one (.int .i64)) true, .row (.one (.int .i64)) true, .row (.one .bool) true]
abbrev ps3_21 : VPL := (.cons (.lst true (.many [.int .i64, .int .i64, .int .i64])) (.cons (.int .i64) (.cons (.ptr 0 0) (.cons (.full 10) (.cons (.int .i64) (.cons (.ptr 11 0) (.cons (.int .i64) .nil)))))))
abbrev os3_21 : List OP := [.box (.cons (.int .i64) (.cons (.full 1) (.cons (.full 2) (.cons (.ptr 3 0) (.cons (.ptr 7 0) (.cons (.int .u64) (.cons (.int .i64) (.cons .bool .nil)))))))) true, .row (.many [.int .i64, .int .i64, .int .i64, .int .u64]) true, .row (.one (.int .i64)) true, .box (.cons (.fn 22 (.cons (.ptr 4 0) .nil)) (.cons (.full 5) (.cons (.full 6) .nil))) true, .box (.cons (.ptr 0 0) .nil) true, .row (.one (.int .i64)) true, .row (.one (.int .i64)) true, .box (.cons (.fn 24 (.cons (.ptr 4 0) .nil)) (.cons (.full 8) (.cons (.full 9) .nil))) true, .row (.one (.int .i64)) true, .row (.one (.int .i64)) true, .row (.one .bool) true, .box (.cons (.int .i64) (.cons (.int .i64) (.cons (.int .i64) .nil))) true]
noncomputable def body3 : Code := match Try.f3.body with
  | some c => c
  | none => .skip
def L3_21 (K : Nat) : Nat → ps3_21.T → OPL.T os3_21 → Option (AT alts3)
  | 0, _, _ => none
  | k + 1, (a1, (a2, ((), ((), (a3, ((), (a4, ()))))))), ((a5, ((), ((), ((), ((), (a6, (a7, (a8, ())))))))), (a9, (a10, ((((), ()), ((), ((), ()))), (((), ()), (a11, (a12, ((((), ()), ((), ((), ()))), (a13, (a14, (a15, ((a16, (a17, (a18, ()))), ())))))))))))) =>
    if decide (a4 < a3) = true then
      Option.bind
        ((F13 K) ((), ())
          ((a5, (), (), (), (), a6, a7, a8, ()), a9, a10, (((), ()), (), (), ()), ((), ()), a11, a12,
            (((), ()), (), (), ()), a13, a14, ()))
        fun val =>
        if (!(Prod.snd (Prod.fst val)).1) = true then some (false, ())
        else
          if decide ((Prod.snd (Prod.snd (Prod.fst (Prod.fst val)))).1 < (0 : Int)) = true then some (false, ())
          else
            if decide (a2 ≤ (Prod.snd (Prod.snd (Prod.fst (Prod.fst val)))).1) = true then some (false, ())
            else
              if
                  (0 : Int) ≤ (Prod.snd (Prod.snd (Prod.fst (Prod.fst val)))).1 ∧
                    (Prod.snd (Prod.snd (Prod.fst (Prod.fst val)))).1 < (↑(List.length a15) : Int) then
                if Int.toNat (Prod.snd (Prod.snd (Prod.fst (Prod.fst val)))).1 < List.length a15 then
                  if (!List.getD a15 (Int.toNat (Prod.snd (Prod.snd (Prod.fst (Prod.fst val)))).1) false) = true then
                    some (false, ())
                  else
                    if
                        (0 : Int) ≤ (Prod.snd (Prod.snd (Prod.fst (Prod.fst val)))).1 ∧
                          (Prod.snd (Prod.snd (Prod.fst (Prod.fst val)))).1 < (↑(List.length a1) : Int) then
                      if
                          (!decide
                                ((Prod.fst (Prod.fst val)).1 =
                                  (List.getD (Prod.fst (a1, a2, (), (), a3, (), a4, ()))
                                      (Int.toNat (Prod.fst (Prod.snd (Prod.snd (Prod.fst (Prod.fst val))))))
                                      (EK.dflt
                                        (EK.many [SK.int IntKind.i64, SK.int IntKind.i64, SK.int IntKind.i64]))).1)) =
                            true then
                        some (false, ())
                      else
                        if
                            (0 : Int) ≤ (Prod.snd (Prod.snd (Prod.fst (Prod.fst val)))).1 ∧
                              (Prod.snd (Prod.snd (Prod.fst (Prod.fst val)))).1 < (↑(List.length a1) : Int) then
                          if
                              (!decide
                                    ((Prod.snd (Prod.fst (Prod.fst val))).1 =
                                      (Prod.snd
                                          (List.getD (Prod.fst (a1, a2, (), (), a3, (), a4, ()))
                                            (Int.toNat (Prod.fst (Prod.snd (Prod.snd (Prod.fst (Prod.fst val))))))
                                            (EK.dflt
                                              (EK.many
                                                [SK.int IntKind.i64, SK.int IntKind.i64, SK.int IntKind.i64])))).1)) =
                                true then
                            some (false, ())
                          else
                            Option.bind
                              (F14 ((), ())
                                (((Prod.fst (Prod.snd val)).1, (), (), (), (),
                                    (Prod.snd (Prod.snd (Prod.snd (Prod.snd (Prod.snd (Prod.fst (Prod.snd val))))))).1,
                                    (Prod.snd
                                        (Prod.snd (Prod.snd (Prod.snd (Prod.snd (Prod.snd (Prod.fst (Prod.snd val)))))))).1,
                                    (Prod.snd
                                        (Prod.snd
                                          (Prod.snd
                                            (Prod.snd (Prod.snd (Prod.snd (Prod.snd (Prod.fst (Prod.snd val))))))))).1,
                                    ()),
                                  (Prod.snd
                                      (Prod.snd
                                        (Prod.snd
                                          (Prod.snd
                                            (Prod.snd
                                              (Prod.snd (Prod.snd (Prod.snd (Prod.snd (Prod.snd (Prod.snd val))))))))))).1,
                                  (Prod.snd
                                      (Prod.snd
                                        (Prod.snd
                                          (Prod.snd
                                            (Prod.snd
                                              (Prod.snd
                                                (Prod.snd
                                                  (Prod.snd (Prod.snd (Prod.snd (Prod.snd (Prod.snd val)))))))))))).1,
                                  (((), ()), (), (), ()), ((), ()),
                                  (Prod.snd
                                      (Prod.snd
                                        (Prod.snd
                                          (Prod.snd
                                            (Prod.snd
                                              (Prod.snd
                                                (Prod.snd
                                                  (Prod.snd
                                                    (Prod.snd (Prod.snd (Prod.snd (Prod.snd (Prod.snd val))))))))))))).1,
                                  (Prod.snd
                                      (Prod.snd
                                        (Prod.snd
                                          (Prod.snd
                                            (Prod.snd
                                              (Prod.snd
                                                (Prod.snd
                                                  (Prod.snd
                                                    (Prod.snd
                                                      (Prod.snd (Prod.snd (Prod.snd (Prod.snd (Prod.snd val)))))))))))))).1,
                                  (((), ()), (), (), ()),
                                  (Prod.snd
                                      (Prod.snd
                                        (Prod.snd
                                          (Prod.snd
                                            (Prod.snd
                                              (Prod.snd
                                                (Prod.snd
                                                  (Prod.snd
                                                    (Prod.snd
                                                      (Prod.snd
                                                        (Prod.snd
                                                          (Prod.snd (Prod.snd (Prod.snd (Prod.snd val))))))))))))))).1,
                                  (Prod.snd
                                      (Prod.snd
                                        (Prod.snd
                                          (Prod.snd
                                            (Prod.snd
                                              (Prod.snd
                                                (Prod.snd
                                                  (Prod.snd
                                                    (Prod.snd
                                                      (Prod.snd
                                                        (Prod.snd
                                                          (Prod.snd
                                                            (Prod.snd (Prod.snd (Prod.snd (Prod.snd val)))))))))))))))).1,
                                  ()))
                              fun val_1 =>
                              if
                                  (!decide
                                        (val_1.1 =
                                          IntKind.wrap IntKind.i64 (IntKind.wrap IntKind.i64 (a3 - (1 : Int)) - a4))) =
                                    true then
                                some (false, ())
                              else
                                if
                                    (0 : Int) ≤ (Prod.snd (Prod.snd (Prod.fst (Prod.fst val)))).1 ∧
                                      (Prod.snd (Prod.snd (Prod.fst (Prod.fst val)))).1 < (↑(List.length a15) : Int) then
                                  if Int.toNat (Prod.snd (Prod.snd (Prod.fst (Prod.fst val)))).1 < List.length a15 then
                                    if decide ((0 : Int) < a4) = true then
                                      if decide (a16 < (Prod.fst (Prod.fst val)).1) = true then some (false, ())
                                      else
                                        if decide ((Prod.fst (Prod.fst val)).1 = a16) = true then
                                          if decide (a17 < (Prod.snd (Prod.fst (Prod.fst val))).1) = true then
                                            some (false, ())
                                          else
                                            if decide ((Prod.snd (Prod.fst (Prod.fst val))).1 = a17) = true then
                                              if
                                                  decide (a18 < (Prod.snd (Prod.snd (Prod.fst (Prod.fst val)))).1) =
                                                    true then
                                                some (false, ())
                                              else
                                                (L3_21 K) k
                                                  (a1, a2, (), (), a3, (), IntKind.wrap IntKind.i64 (a4 + (1 : Int)), ())
                                                  (((Prod.fst (Prod.snd val)).1, (), (), (), (),
                                                      (Prod.snd
                                                          (Prod.snd
                                                            (Prod.snd (Prod.snd (Prod.snd (Prod.fst (Prod.snd val))))))).1,
                                                      (Prod.snd
                                                          (Prod.snd
                                                            (Prod.snd
                                                              (Prod.snd
                                                                (Prod.snd (Prod.snd (Prod.fst (Prod.snd val)))))))).1,
                                                      (Prod.snd
                                                          (Prod.snd
                                                            (Prod.snd
                                                              (Prod.snd
                                                                (Prod.snd
                                                                  (Prod.snd (Prod.snd (Prod.fst (Prod.snd val))))))))).1,
                                                      ()),
                                                    (Prod.snd
                                                        (Prod.snd
                                                          (Prod.snd
                                                            (Prod.snd
                                                              (Prod.snd
                                                                (Prod.snd
                                                                  (Prod.snd
                                                                    (Prod.snd
                                                                      (Prod.snd (Prod.snd (Prod.snd val))))))))))).1,
                                                    (Prod.snd
                                                        (Prod.snd
                                                          (Prod.snd
                                                            (Prod.snd
                                                              (Prod.snd
                                                                (Prod.snd
                                                                  (Prod.snd
                                                                    (Prod.snd
                                                                      (Prod.snd
                                                                        (Prod.snd (Prod.snd (Prod.snd val)))))))))))).1,
                                                    (((), ()), (), (), ()), ((), ()),
                                                    (Prod.snd
                                                        (Prod.snd
                                                          (Prod.snd
                                                            (Prod.snd
                                                              (Prod.snd
                                                                (Prod.snd
                                                                  (Prod.snd
                                                                    (Prod.snd
                                                                      (Prod.snd
                                                                        (Prod.snd
                                                                          (Prod.snd (Prod.snd (Prod.snd val))))))))))))).1,
                                                    (Prod.snd
                                                        (Prod.snd
                                                          (Prod.snd
                                                            (Prod.snd
                                                              (Prod.snd
                                                                (Prod.snd
                                                                  (Prod.snd
                                                                    (Prod.snd
                                                                      (Prod.snd
                                                                        (Prod.snd
                                                                          (Prod.snd
                                                                            (Prod.snd
                                                                              (Prod.snd (Prod.snd val)))))))))))))).1,
                                                    (((), ()), (), (), ()),
                                                    (Prod.snd
                                                        (Prod.snd
                                                          (Prod.snd
                                                            (Prod.snd
                                                              (Prod.snd
                                                                (Prod.snd
                                                                  (Prod.snd
                                                                    (Prod.snd
                                                                      (Prod.snd
                                                                        (Prod.snd
                                                                          (Prod.snd
                                                                            (Prod.snd
                                                                              (Prod.snd
                                                                                (Prod.snd (Prod.snd val))))))))))))))).1,
                                                    (Prod.snd
                                                        (Prod.snd
                                                          (Prod.snd
                                                            (Prod.snd
                                                              (Prod.snd
                                                                (Prod.snd
                                                                  (Prod.snd
                                                                    (Prod.snd
                                                                      (Prod.snd
                                                                        (Prod.snd
                                                                          (Prod.snd
                                                                            (Prod.snd
                                                                              (Prod.snd
                                                                                (Prod.snd
                                                                                  (Prod.snd (Prod.snd val)))))))))))))))).1,
                                                    List.set a15
                                                      (Int.toNat (Prod.snd (Prod.snd (Prod.fst (Prod.fst val)))).1) false,
                                                    ((Prod.fst (Prod.fst val)).1, (Prod.snd (Prod.fst (Prod.fst val))).1,
                                                      (Prod.snd (Prod.snd (Prod.fst (Prod.fst val)))).1, ()),
                                                    ())
                                            else
                                              (L3_21 K) k (a1, a2, (), (), a3, (), IntKind.wrap IntKind.i64 (a4 + (1 : Int)), ())
                                                (((Prod.fst (Prod.snd val)).1, (), (), (), (),
                                                    (Prod.snd
                                                        (Prod.snd
                                                          (Prod.snd (Prod.snd (Prod.snd (Prod.fst (Prod.snd val))))))).1,
                                                    (Prod.snd
                                                        (Prod.snd
                                                          (Prod.snd
                                                            (Prod.snd (Prod.snd (Prod.snd (Prod.fst (Prod.snd val)))))))).1,
                                                    (Prod.snd
                                                        (Prod.snd
                                                          (Prod.snd
                                                            (Prod.snd
                                                              (Prod.snd
                                                                (Prod.snd (Prod.snd (Prod.fst (Prod.snd val))))))))).1,
                                                    ()),
                                                  (Prod.snd
                                                      (Prod.snd
                                                        (Prod.snd
                                                          (Prod.snd
                                                            (Prod.snd
                                                              (Prod.snd
                                                                (Prod.snd
                                                                  (Prod.snd (Prod.snd (Prod.snd (Prod.snd val))))))))))).1,
                                                  (Prod.snd
                                                      (Prod.snd
                                                        (Prod.snd
                                                          (Prod.snd
                                                            (Prod.snd
                                                              (Prod.snd
                                                                (Prod.snd
                                                                  (Prod.snd
                                                                    (Prod.snd
                                                                      (Prod.snd (Prod.snd (Prod.snd val)))))))))))).1,
                                                  (((), ()), (), (), ()), ((), ()),
                                                  (Prod.snd
                                                      (Prod.snd
                                                        (Prod.snd
                                                          (Prod.snd
                                                            (Prod.snd
                                                              (Prod.snd
                                                                (Prod.snd
                                                                  (Prod.snd
                                                                    (Prod.snd
                                                                      (Prod.snd
                                                                        (Prod.snd (Prod.snd (Prod.snd val))))))))))))).1,
                                                  (Prod.snd
                                                      (Prod.snd
                                                        (Prod.snd
                                                          (Prod.snd
                                                            (Prod.snd
                                                              (Prod.snd
                                                                (Prod.snd
                                                                  (Prod.snd
                                                                    (Prod.snd
                                                                      (Prod.snd
                                                                        (Prod.snd
                                                                          (Prod.snd (Prod.snd (Prod.snd val)))))))))))))).1,
                                                  (((), ()), (), (), ()),
                                                  (Prod.snd
                                                      (Prod.snd
                                                        (Prod.snd
                                                          (Prod.snd
                                                            (Prod.snd
                                                              (Prod.snd
                                                                (Prod.snd
                                                                  (Prod.snd
                                                                    (Prod.snd
                                                                      (Prod.snd
                                                                        (Prod.snd
                                                                          (Prod.snd
                                                                            (Prod.snd
                                                                              (Prod.snd (Prod.snd val))))))))))))))).1,
                                                  (Prod.snd
                                                      (Prod.snd
                                                        (Prod.snd
                                                          (Prod.snd
                                                            (Prod.snd
                                                              (Prod.snd
                                                                (Prod.snd
                                                                  (Prod.snd
                                                                    (Prod.snd
                                                                      (Prod.snd
                                                                        (Prod.snd
                                                                          (Prod.snd
                                                                            (Prod.snd
                                                                              (Prod.snd
                                                                                (Prod.snd (Prod.snd val)))))))))))))))).1,
                                                  List.set a15 (Int.toNat (Prod.snd (Prod.snd (Prod.fst (Prod.fst val)))).1)
                                                    false,
                                                  ((Prod.fst (Prod.fst val)).1, (Prod.snd (Prod.fst (Prod.fst val))).1,
                                                    (Prod.snd (Prod.snd (Prod.fst (Prod.fst val)))).1, ()),
                                                  ())
                                        else
                                          (L3_21 K) k (a1, a2, (), (), a3, (), IntKind.wrap IntKind.i64 (a4 + (1 : Int)), ())
                                            (((Prod.fst (Prod.snd val)).1, (), (), (), (),
                                                (Prod.snd
                                                    (Prod.snd
                                                      (Prod.snd (Prod.snd (Prod.snd (Prod.fst (Prod.snd val))))))).1,
                                                (Prod.snd
                                                    (Prod.snd
                                                      (Prod.snd
                                                        (Prod.snd (Prod.snd (Prod.snd (Prod.fst (Prod.snd val)))))))).1,
                                                (Prod.snd
                                                    (Prod.snd
                                                      (Prod.snd
                                                        (Prod.snd
                                                          (Prod.snd (Prod.snd (Prod.snd (Prod.fst (Prod.snd val))))))))).1,
                                                ()),
                                              (Prod.snd
                                                  (Prod.snd
                                                    (Prod.snd
                                                      (Prod.snd
                                                        (Prod.snd
                                                          (Prod.snd
                                                            (Prod.snd
                                                              (Prod.snd (Prod.snd (Prod.snd (Prod.snd val))))))))))).1,
                                              (Prod.snd
                                                  (Prod.snd
                                                    (Prod.snd
                                                      (Prod.snd
                                                        (Prod.snd
                                                          (Prod.snd
                                                            (Prod.snd
                                                              (Prod.snd
                                                                (Prod.snd (Prod.snd (Prod.snd (Prod.snd val)))))))))))).1,
                                              (((), ()), (), (), ()), ((), ()),
                                              (Prod.snd
                                                  (Prod.snd
                                                    (Prod.snd
                                                      (Prod.snd
                                                        (Prod.snd
                                                          (Prod.snd
                                                            (Prod.snd
                                                              (Prod.snd
                                                                (Prod.snd
                                                                  (Prod.snd
                                                                    (Prod.snd (Prod.snd (Prod.snd val))))))))))))).1,
                                              (Prod.snd
                                                  (Prod.snd
                                                    (Prod.snd
                                                      (Prod.snd
                                                        (Prod.snd
                                                          (Prod.snd
                                                            (Prod.snd
                                                              (Prod.snd
                                                                (Prod.snd
                                                                  (Prod.snd
                                                                    (Prod.snd
                                                                      (Prod.snd (Prod.snd (Prod.snd val)))))))))))))).1,
                                              (((), ()), (), (), ()),
                                              (Prod.snd
                                                  (Prod.snd
                                                    (Prod.snd
                                                      (Prod.snd
                                                        (Prod.snd
                                                          (Prod.snd
                                                            (Prod.snd
                                                              (Prod.snd
                                                                (Prod.snd
                                                                  (Prod.snd
                                                                    (Prod.snd
                                                                      (Prod.snd
                                                                        (Prod.snd (Prod.snd (Prod.snd val))))))))))))))).1,
                                              (Prod.snd
                                                  (Prod.snd
                                                    (Prod.snd
                                                      (Prod.snd
                                                        (Prod.snd
                                                          (Prod.snd
                                                            (Prod.snd
                                                              (Prod.snd
                                                                (Prod.snd
                                                                  (Prod.snd
                                                                    (Prod.snd
                                                                      (Prod.snd
                                                                        (Prod.snd
                                                                          (Prod.snd
                                                                            (Prod.snd (Prod.snd val)))))))))))))))).1,
                                              List.set a15 (Int.toNat (Prod.snd (Prod.snd (Prod.fst (Prod.fst val)))).1)
                                                false,
                                              ((Prod.fst (Prod.fst val)).1, (Prod.snd (Prod.fst (Prod.fst val))).1,
                                                (Prod.snd (Prod.snd (Prod.fst (Prod.fst val)))).1, ()),
                                              ())
                                    else
                                      (L3_21 K) k (a1, a2, (), (), a3, (), IntKind.wrap IntKind.i64 (a4 + (1 : Int)), ())
                                        (((Prod.fst (Prod.snd val)).1, (), (), (), (),
                                            (Prod.snd
                                                (Prod.snd (Prod.snd (Prod.snd (Prod.snd (Prod.fst (Prod.snd val))))))).1,
                                            (Prod.snd
                                                (Prod.snd
                                                  (Prod.snd (Prod.snd (Prod.snd (Prod.snd (Prod.fst (Prod.snd val)))))))).1,
                                            (Prod.snd
                                                (Prod.snd
                                                  (Prod.snd
                                                    (Prod.snd
                                                      (Prod.snd (Prod.snd (Prod.snd (Prod.fst (Prod.snd val))))))))).1,
                                            ()),
                                          (Prod.snd
                                              (Prod.snd
                                                (Prod.snd
                                                  (Prod.snd
                                                    (Prod.snd
                                                      (Prod.snd
                                                        (Prod.snd (Prod.snd (Prod.snd (Prod.snd (Prod.snd val))))))))))).1,
                                          (Prod.snd
                                              (Prod.snd
                                                (Prod.snd
                                                  (Prod.snd
                                                    (Prod.snd
                                                      (Prod.snd
                                                        (Prod.snd
                                                          (Prod.snd
                                                            (Prod.snd (Prod.snd (Prod.snd (Prod.snd val)))))))))))).1,
                                          (((), ()), (), (), ()), ((), ()),
                                          (Prod.snd
                                              (Prod.snd
                                                (Prod.snd
                                                  (Prod.snd
                                                    (Prod.snd
                                                      (Prod.snd
                                                        (Prod.snd
                                                          (Prod.snd
                                                            (Prod.snd
                                                              (Prod.snd (Prod.snd (Prod.snd (Prod.snd val))))))))))))).1,
                                          (Prod.snd
                                              (Prod.snd
                                                (Prod.snd
                                                  (Prod.snd
                                                    (Prod.snd
                                                      (Prod.snd
                                                        (Prod.snd
                                                          (Prod.snd
                                                            (Prod.snd
                                                              (Prod.snd
                                                                (Prod.snd (Prod.snd (Prod.snd (Prod.snd val)))))))))))))).1,
                                          (((), ()), (), (), ()),
                                          (Prod.snd
                                              (Prod.snd
                                                (Prod.snd
                                                  (Prod.snd
                                                    (Prod.snd
                                                      (Prod.snd
                                                        (Prod.snd
                                                          (Prod.snd
                                                            (Prod.snd
                                                              (Prod.snd
                                                                (Prod.snd
                                                                  (Prod.snd
                                                                    (Prod.snd (Prod.snd (Prod.snd val))))))))))))))).1,
                                          (Prod.snd
                                              (Prod.snd
                                                (Prod.snd
                                                  (Prod.snd
                                                    (Prod.snd
                                                      (Prod.snd
                                                        (Prod.snd
                                                          (Prod.snd
                                                            (Prod.snd
                                                              (Prod.snd
                                                                (Prod.snd
                                                                  (Prod.snd
                                                                    (Prod.snd
                                                                      (Prod.snd (Prod.snd (Prod.snd val)))))))))))))))).1,
                                          List.set a15 (Int.toNat (Prod.snd (Prod.snd (Prod.fst (Prod.fst val)))).1) false,
                                          ((Prod.fst (Prod.fst val)).1, (Prod.snd (Prod.fst (Prod.fst val))).1,
                                            (Prod.snd (Prod.snd (Prod.fst (Prod.fst val)))).1, ()),
                                          ())
                                  else none
                                else none
                        else none
                    else none
                else none
              else none
    else
      Option.bind
        ((F13 K) ((), ())
          ((a5, (), (), (), (), a6, a7, a8, ()), a9, a10, (((), ()), (), (), ()), ((), ()), a11, a12,
            (((), ()), (), (), ()), a13, a14, ()))
        fun val => some (!(Prod.snd (Prod.fst val)).1, ())
def L3_8 (K : Nat) : Nat → ps3_8.T → OPL.T os3_8 → Option (AT alts3)
  | 0, _, _ => none
  | k + 1, (a1, (a2, (a3, ((), ((), (a4, ())))))), ((a5, ((), ((), ((), ((), (a6, (a7, (a8, ())))))))), (a9, (a10, ((((), ()), ((), ((), ()))), (((), ()), (a11, (a12, ((((), ()), ((), ((), ()))), (a13, (a14, (a15, ()))))))))))) =>
    if decide (a4 < a3) = true then
      if (0 : Int) ≤ a4 ∧ a4 < (↑(List.length a1) : Int) then
        if (0 : Int) ≤ a4 ∧ a4 < (↑(List.length a1) : Int) then
          Option.bind
            ((F12 K)
              ((),
                ((List.getD (Prod.fst (a1, a2, a3, (), (), a4, ()))
                      (Int.toNat
                        (Prod.fst (Prod.snd (Prod.snd (Prod.snd (Prod.snd (Prod.snd (a1, a2, a3, (), (), a4, ()))))))))
                      (EK.dflt (EK.many [SK.int IntKind.i64, SK.int IntKind.i64, SK.int IntKind.i64]))).1,
                  (Prod.snd
                      (List.getD (Prod.fst (a1, a2, a3, (), (), a4, ()))
                        (Int.toNat
                          (Prod.fst (Prod.snd (Prod.snd (Prod.snd (Prod.snd (Prod.snd (a1, a2, a3, (), (), a4, ()))))))))
                        (EK.dflt (EK.many [SK.int IntKind.i64, SK.int IntKind.i64, SK.int IntKind.i64])))).1,
                  a4, ()),
                ())
              ((a5, (), (), (), (), a6, a7, a8, ()), a9, a10, (((), ()), (), (), ()), ((), ()), a11, a12,
                (((), ()), (), (), ()), a13, a14, ()))
            fun val =>
            if (0 : Int) ≤ a4 ∧ a4 < (↑(List.length a15) : Int) then
              if Int.toNat a4 < List.length a15 then
                Option.bind (F10 ((Prod.snd (Prod.snd (Prod.fst val))).1, ()) ()) fun val_1 =>
                  if (!decide (val_1.1 = (0 : Int))) = true then some (false, ())
                  else
                    if (!(Prod.snd (Prod.fst val)).1 == decide (a2 ≤ a4)) = true then some (false, ())
                    else
                      if (Prod.snd (Prod.fst val)).1 = true then
                        if decide ((Prod.snd (Prod.snd (Prod.fst (Prod.fst val)))).1 < (0 : Int)) = true then
                          some (false, ())
                        else
                          if decide (a4 < (Prod.snd (Prod.snd (Prod.fst (Prod.fst val)))).1) = true then some (false, ())
                          else
                            if
                                (0 : Int) ≤ (Prod.snd (Prod.snd (Prod.fst (Prod.fst val)))).1 ∧
                                  (Prod.snd (Prod.snd (Prod.fst (Prod.fst val)))).1 <
                                    (↑(List.length (List.set a15 (Int.toNat a4) true)) : Int) then
                              if
                                  Int.toNat (Prod.snd (Prod.snd (Prod.fst (Prod.fst val)))).1 <
                                    List.length (List.set a15 (Int.toNat a4) true) then
                                if
                                    (!List.getD (List.set a15 (Int.toNat a4) true)
                                          (Int.toNat (Prod.snd (Prod.snd (Prod.fst (Prod.fst val)))).1) false) =
                                      true then
                                  some (false, ())
                                else
                                  if
                                      (0 : Int) ≤ (Prod.snd (Prod.snd (Prod.fst (Prod.fst val)))).1 ∧
                                        (Prod.snd (Prod.snd (Prod.fst (Prod.fst val)))).1 <
                                          (↑(List.length (List.set a15 (Int.toNat a4) true)) : Int) then
                                    if
                                        Int.toNat (Prod.snd (Prod.snd (Prod.fst (Prod.fst val)))).1 <
                                          List.length (List.set a15 (Int.toNat a4) true) then
                                      (L3_8 K) k (a1, a2, a3, (), (), IntKind.wrap IntKind.i64 (a4 + (1 : Int)), ())
                                        (((Prod.fst (Prod.snd val)).1, (), (), (), (),
                                            (Prod.snd
                                                (Prod.snd (Prod.snd (Prod.snd (Prod.snd (Prod.fst (Prod.snd val))))))).1,
                                            (Prod.snd
                                                (Prod.snd
                                                  (Prod.snd (Prod.snd (Prod.snd (Prod.snd (Prod.fst (Prod.snd val)))))))).1,
                                            (Prod.snd
                                                (Prod.snd
                                                  (Prod.snd
                                                    (Prod.snd
                                                      (Prod.snd (Prod.snd (Prod.snd (Prod.fst (Prod.snd val))))))))).1,
                                            ()),
                                          (Prod.snd
                                              (Prod.snd
                                                (Prod.snd
                                                  (Prod.snd
                                                    (Prod.snd
                                                      (Prod.snd
                                                        (Prod.snd (Prod.snd (Prod.snd (Prod.snd (Prod.snd val))))))))))).1,
                                          (Prod.snd
                                              (Prod.snd
                                                (Prod.snd
                                                  (Prod.snd
                                                    (Prod.snd
                                                      (Prod.snd
                                                        (Prod.snd
                                                          (Prod.snd
                                                            (Prod.snd (Prod.snd (Prod.snd (Prod.snd val)))))))))))).1,
                                          (((), ()), (), (), ()), ((), ()),
                                          (Prod.snd
                                              (Prod.snd
                                                (Prod.snd
                                                  (Prod.snd
                                                    (Prod.snd
                                                      (Prod.snd
                                                        (Prod.snd
                                                          (Prod.snd
                                                            (Prod.snd
                                                              (Prod.snd (Prod.snd (Prod.snd (Prod.snd val))))))))))))).1,
                                          (Prod.snd
                                              (Prod.snd
                                                (Prod.snd
                                                  (Prod.snd
                                                    (Prod.snd
                                                      (Prod.snd
                                                        (Prod.snd
                                                          (Prod.snd
                                                            (Prod.snd
                                                              (Prod.snd
                                                                (Prod.snd (Prod.snd (Prod.snd (Prod.snd val)))))))))))))).1,
                                          (((), ()), (), (), ()),
                                          (Prod.snd
                                              (Prod.snd
                                                (Prod.snd
                                                  (Prod.snd
                                                    (Prod.snd
                                                      (Prod.snd
                                                        (Prod.snd
                                                          (Prod.snd
                                                            (Prod.snd
                                                              (Prod.snd
                                                                (Prod.snd
                                                                  (Prod.snd
                                                                    (Prod.snd (Prod.snd (Prod.snd val))))))))))))))).1,
                                          (Prod.snd
                                              (Prod.snd
                                                (Prod.snd
                                                  (Prod.snd
                                                    (Prod.snd
                                                      (Prod.snd
                                                        (Prod.snd
                                                          (Prod.snd
                                                            (Prod.snd
                                                              (Prod.snd
                                                                (Prod.snd
                                                                  (Prod.snd
                                                                    (Prod.snd
                                                                      (Prod.snd (Prod.snd (Prod.snd val)))))))))))))))).1,
                                          List.set (List.set a15 (Int.toNat a4) true)
                                            (Int.toNat (Prod.snd (Prod.snd (Prod.fst (Prod.fst val)))).1) false,
                                          ())
                                    else none
                                  else none
                              else none
                            else none
                      else
                        (L3_8 K) k (a1, a2, a3, (), (), IntKind.wrap IntKind.i64 (a4 + (1 : Int)), ())
                          (((Prod.fst (Prod.snd val)).1, (), (), (), (),
                              (Prod.snd (Prod.snd (Prod.snd (Prod.snd (Prod.snd (Prod.fst (Prod.snd val))))))).1,
                              (Prod.snd (Prod.snd (Prod.snd (Prod.snd (Prod.snd (Prod.snd (Prod.fst (Prod.snd val)))))))).1,
                              (Prod.snd
                                  (Prod.snd
                                    (Prod.snd (Prod.snd (Prod.snd (Prod.snd (Prod.snd (Prod.fst (Prod.snd val))))))))).1,
                              ()),
                            (Prod.snd
                                (Prod.snd
                                  (Prod.snd
                                    (Prod.snd
                                      (Prod.snd
                                        (Prod.snd (Prod.snd (Prod.snd (Prod.snd (Prod.snd (Prod.snd val))))))))))).1,
                            (Prod.snd
                                (Prod.snd
                                  (Prod.snd
                                    (Prod.snd
                                      (Prod.snd
                                        (Prod.snd
                                          (Prod.snd (Prod.snd (Prod.snd (Prod.snd (Prod.snd (Prod.snd val)))))))))))).1,
                            (((), ()), (), (), ()), ((), ()),
                            (Prod.snd
                                (Prod.snd
                                  (Prod.snd
                                    (Prod.snd
                                      (Prod.snd
                                        (Prod.snd
                                          (Prod.snd
                                            (Prod.snd (Prod.snd (Prod.snd (Prod.snd (Prod.snd (Prod.snd val))))))))))))).1,
                            (Prod.snd
                                (Prod.snd
                                  (Prod.snd
                                    (Prod.snd
                                      (Prod.snd
                                        (Prod.snd
                                          (Prod.snd
                                            (Prod.snd
                                              (Prod.snd
                                                (Prod.snd (Prod.snd (Prod.snd (Prod.snd (Prod.snd val)))))))))))))).1,
                            (((), ()), (), (), ()),
                            (Prod.snd
                                (Prod.snd
                                  (Prod.snd
                                    (Prod.snd
                                      (Prod.snd
                                        (Prod.snd
                                          (Prod.snd
                                            (Prod.snd
                                              (Prod.snd
                                                (Prod.snd
                                                  (Prod.snd (Prod.snd (Prod.snd (Prod.snd (Prod.snd val))))))))))))))).1,
                            (Prod.snd
                                (Prod.snd
                                  (Prod.snd
                                    (Prod.snd
                                      (Prod.snd
                                        (Prod.snd
                                          (Prod.snd
                                            (Prod.snd
                                              (Prod.snd
                                                (Prod.snd
                                                  (Prod.snd
                                                    (Prod.snd (Prod.snd (Prod.snd (Prod.snd (Prod.snd val)))))))))))))))).1,
                            List.set a15 (Int.toNat a4) true, ())
              else none
            else none
        else none
      else none
    else
      (L3_21 K) k (a1, a3, (), (), if a2 < a3 then a2 else a3, (), (0 : Int), ())
        ((a5, (), (), (), (), a6, a7, a8, ()), a9, a10, (((), ()), (), (), ()), ((), ()), a11, a12, (((), ()), (), (), ()),
          a13, a14, a15, ((0 : Int), (0 : Int), (0 : Int), ()), ())
def F3 (k : Nat) : pin3.T → OPL.T os3 → Option (AT alts3)
  | (a1, (a2, ())), () =>
    Option.bind
      (F9
        (IntKind.wrap IntKind.i64
            ((1 : Int) + Int.tmod (IntKind.wrap IntKind.i64 (Int.tmod a2 (65536 : Int) + (65536 : Int))) (65536 : Int)),
          ())
        ())
      fun val =>
      Sum.elim
        (fun val =>
          Option.bind (F10 ((Prod.snd (Prod.fst val)).1, ()) ()) fun val =>
            if (!decide (val.1 = (0 : Int))) = true then some (false, ()) else some (false, ()))
        (fun val =>
          Option.bind (F10 ((Prod.snd (Prod.fst val)).1, ()) ()) fun val_1 =>
            if (!decide (val_1.1 = (0 : Int))) = true then some (false, ())
            else
              Option.bind ((F11 k) () ()) fun val_2 =>
                if (!val_2.1) = true then some (false, ())
                else
                  if
                      (0 : Int) ≤ (↑(List.length a1) : Int) ∧
                        (↑(List.length a1) : Int) ≤ (↑(List.length a1) : Int) ∧
                          (↑(List.length a1) : Int) * (1 : Int) ≤ (140737488355328 : Int) then
                    (L3_8 k) k
                      (a1,
                        IntKind.wrap IntKind.i64
                          ((1 : Int) +
                            Int.tmod (IntKind.wrap IntKind.i64 (Int.tmod a2 (65536 : Int) + (65536 : Int))) (65536 : Int)),
                        (↑(List.length a1) : Int), (), (), (0 : Int), ())
                      (((Prod.fst (Prod.snd val)).1, (), (), (), (),
                          (Prod.snd (Prod.snd (Prod.snd (Prod.snd (Prod.snd (Prod.fst (Prod.snd val))))))).1,
                          (Prod.snd (Prod.snd (Prod.snd (Prod.snd (Prod.snd (Prod.snd (Prod.fst (Prod.snd val)))))))).1,
                          (Prod.snd
                              (Prod.snd
                                (Prod.snd (Prod.snd (Prod.snd (Prod.snd (Prod.snd (Prod.fst (Prod.snd val))))))))).1,
                          ()),
                        (Prod.snd (Prod.snd val)).1, (Prod.snd (Prod.snd (Prod.snd val))).1, (((), ()), (), (), ()),
                        ((), ()), (Prod.snd (Prod.snd (Prod.snd (Prod.snd (Prod.snd (Prod.snd val)))))).1,
                        (Prod.snd (Prod.snd (Prod.snd (Prod.snd (Prod.snd (Prod.snd (Prod.snd val))))))).1,
                        (((), ()), (), (), ()),
                        (Prod.snd
                            (Prod.snd (Prod.snd (Prod.snd (Prod.snd (Prod.snd (Prod.snd (Prod.snd (Prod.snd val))))))))).1,
                        (Prod.snd
                            (Prod.snd
                              (Prod.snd
                                (Prod.snd (Prod.snd (Prod.snd (Prod.snd (Prod.snd (Prod.snd (Prod.snd val)))))))))).1,
                        List.replicate (Int.toNat (↑(List.length a1) : Int)) false, ())
                  else none)
        val
noncomputable def T3 (K : Nat) : List (Entry Try.prog) := [E9, E10, E11 K, E13 K, E14, E12 K]
noncomputable def cuts3 (K : Nat) : List (Cut (AT alts3)) := [⟨8, [0, 1, 5, 6, 8, 9], ps3_8, os3_8, L3_8 K⟩, ⟨21, [0, 5, 6, 8, 13, 14, 15], ps3_21, os3_21, L3_21 K⟩]
theorem s3_8 (K : Nat) : ∀ k x y, L3_8 K (k + 1) x y = roundJ Try.prog (tableJ (T3 K)) (Lof 0 k (cuts3 K)) 8 body3 (endJ Try.prog 0 [.tmp 4] alts3) (stAt [0, 1, 5, 6, 8, 9] ps3_8 os3_8 x y) := by
  rintro k ⟨a1, ⟨a2, ⟨a3, ⟨⟨⟩, ⟨⟨⟩, ⟨a4, ⟨⟩⟩⟩⟩⟩⟩⟩ ⟨⟨a5, ⟨⟨⟩, ⟨⟨⟩, ⟨⟨⟩, ⟨⟨⟩, ⟨a6, ⟨a7, ⟨a8, ⟨⟩⟩⟩⟩⟩⟩⟩⟩⟩, ⟨a9, ⟨a10, ⟨⟨⟨⟨⟩, ⟨⟩⟩, ⟨⟨⟩, ⟨⟨⟩, ⟨⟩⟩⟩⟩, ⟨⟨⟨⟩, ⟨⟩⟩, ⟨a11, ⟨a12, ⟨⟨⟨⟨⟩, ⟨⟩⟩, ⟨⟨⟩, ⟨⟨⟩, ⟨⟩⟩⟩⟩, ⟨a13, ⟨a14, ⟨a15, ⟨⟩⟩⟩⟩⟩⟩⟩⟩⟩⟩⟩⟩; kernel_rfl
theorem s3_21 (K : Nat) : ∀ k x y, L3_21 K (k + 1) x y = roundJ Try.prog (tableJ (T3 K)) (Lof 0 k (cuts3 K)) 21 body3 (endJ Try.prog 0 [.tmp 4] alts3) (stAt [0, 5, 6, 8, 13, 14, 15] ps3_21 os3_21 x y) := by
  rintro k ⟨a1, ⟨a2, ⟨⟨⟩, ⟨⟨⟩, ⟨a3, ⟨⟨⟩, ⟨a4, ⟨⟩⟩⟩⟩⟩⟩⟩⟩ ⟨⟨a5, ⟨⟨⟩, ⟨⟨⟩, ⟨⟨⟩, ⟨⟨⟩, ⟨a6, ⟨a7, ⟨a8, ⟨⟩⟩⟩⟩⟩⟩⟩⟩⟩, ⟨a9, ⟨a10, ⟨⟨⟨⟨⟩, ⟨⟩⟩, ⟨⟨⟩, ⟨⟨⟩, ⟨⟩⟩⟩⟩, ⟨⟨⟨⟩, ⟨⟩⟩, ⟨a11, ⟨a12, ⟨⟨⟨⟨⟩, ⟨⟩⟩, ⟨⟨⟩, ⟨⟨⟩, ⟨⟩⟩⟩⟩, ⟨a13, ⟨a14, ⟨a15, ⟨⟨a16, ⟨a17, ⟨a18, ⟨⟩⟩⟩⟩, ⟨⟩⟩⟩⟩⟩⟩⟩⟩⟩⟩⟩⟩⟩; kernel_rfl
theorem e3 (k : Nat) : ∀ x y, F3 k x y = codeJ Try.prog (tableJ (T3 k)) (Lof 0 k (cuts3 k)) body3 (st0 pin3 os3 x y) (endJ Try.prog 0 [.tmp 4] alts3) := by
  rintro ⟨a1, ⟨a2, ⟨⟩⟩⟩ ⟨⟩; kernel_rfl
theorem k3 (k : Nat) : FnOK Try.prog 3 pin3 os3 alts3 (F3 k) :=
  fn_ok (fn := Try.f3) (body := body3) (cuts := cuts3 k) (k := k) (C := tableJ (T3 k)) (C' := tableJ (T3 k)) (table_ok _) (table_nat _) (table_ok _) mixed (by kernel_rfl) (by kernel_rfl) (by decide) (by kernel_rfl) (fun x => Nat.le_of_ble_eq_true (by kernel_rfl))
    (List.forall_mem_cons.2 ⟨fun x y => rfl, List.forall_mem_cons.2 ⟨fun x y => rfl, fun c h => by cases h⟩⟩) (List.forall_mem_cons.2 ⟨s3_8 k, List.forall_mem_cons.2 ⟨s3_21 k, fun c h => by cases h⟩⟩) (e3 k)
noncomputable def E3 (k : Nat) : Entry Try.prog := ⟨3, pin3, os3, alts3, F3 k, k3 k, rfl⟩
end Go.Eng.He

