import Derived.Test.YtofdnjlcnpaecaaP7
import Derived.Test.YtofdnjlcnpaecaaBr4
namespace Go.Proofs.Ytofdnjlcnpaecaa.P
open Go.RowKit Go.Proofs.YtofdnjlcnpaecaaW.PrintWords Go.Proofs.YtofdnjlcnpaecaaW.PrintLast Go.Proofs.YtofdnjlcnpaecaaW.PrintMore
set_option linter.unusedVariables false
set_option linter.unusedSimpArgs false
theorem outpostlaw02_live.at : outpostlaw02_live.f 90 = some true := by decide +kernel
theorem outpostlaw02_live.ev : Ev (fun k => outpostlaw02_live.f k) true := Ev.of outpostlaw02_live.mono outpostlaw02_live.at
theorem whole_mul (a b : Nat) : whole (hi a b) (lo a b) = Gf.mul a b := by
  unfold whole hi lo
  have := split64 (Gf.mul a b)
  rw [pow64] at this
  exact this.symm
theorem rem_lt64 {a b : Nat} (hb : b ≠ 0) (hb64 : b < 18446744073709551616) : Gf.rem a b < 18446744073709551616 := Nat.lt_trans (Gf.rem_lt' a b hb) hb64
theorem poly_rest.ev {a b : Nat} (ha : a < 18446744073709551616) (hb : b ≠ 0) (hb64 : b < 18446744073709551616) : Ev (fun k => poly_rest.f k (a : Int) (b : Int)) ((Gf.rem a b : Nat) : Int) := by
  unfold poly_rest.f
  have h := poly_long.ev (h := 0) (l := a) (b := b) (by decide) ha hb hb64
  rw [whole_zero] at h
  exact Ev.bind h (Ev.now _)
end Go.Proofs.Ytofdnjlcnpaecaa.P
