import Derived.Test.YtofdnjlcnpaecaaBr6
namespace Go.Proofs.Ytofdnjlcnpaecaa.P
open Go.RowKit Go.Proofs.YtofdnjlcnpaecaaW.PrintWords Go.Proofs.YtofdnjlcnpaecaaW.PrintLast Go.Proofs.YtofdnjlcnpaecaaW.PrintMore
theorem Ev.pos {α : Type} {c : Prop} [Decidable c] {f g : Nat → Option α} {r : α} (hc : c) (h : Ev f r) : Ev (fun n => if c then f n else g n) r := by
  simpa [hc] using h
theorem Ev.neg {α : Type} {c : Prop} [Decidable c] {f g : Nat → Option α} {r : α} (hc : ¬ c) (h : Ev g r) : Ev (fun n => if c then f n else g n) r := by
  simpa [hc] using h
theorem Ev.some_bind {α β : Type} {x : Option α} {a : α} {f : Nat → α → Option β} {r : β} (hx : x = some a) (h : Ev (fun n => f n a) r) : Ev (fun n => x.bind (f n)) r := by
  subst hx; exact h
theorem Ev.live {β : Type} {f : Nat → Bool → Option β} {r : β} (h : Ev (fun n => f n true) r) : Ev (fun n => (outpostlaw02_live.f n).bind (f n)) r := Ev.bind outpostlaw02_live.ev h
end Go.Proofs.Ytofdnjlcnpaecaa.P
