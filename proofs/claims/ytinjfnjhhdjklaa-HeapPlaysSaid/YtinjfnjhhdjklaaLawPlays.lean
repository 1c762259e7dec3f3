/- The statement HeapPlays: proved for every input: the engine's reading of its code, and the plain law of it. No condition. -/
import Derived.Test.YtinjfnjhhdjklaaRows
import Derived.Test.YtinjfnjhhdjklaaQ1
import Derived.WalkKit
import Derived.ProofKit
namespace Go.Proofs.Ytinjfnjhhdjklaa.heapPlays
open Go.Eng Go.Eng.He
set_option linter.unusedVariables false
theorem own : ownKnob Try.prog.godebug = none := by kernel_rfl
set_option maxRecDepth 100000 in
theorem lifted (os : Os) (started : os.Started) (H : Type) (enc : TypeId × Value → H) :
    ReturnsInHanded {} Try.checked os 6 .any (Rows.heapPlaysSpec.pre6 enc Try.prog Try.f6 Rows.heapPlaysRow.domain false) (Rows.heapPlaysSpec.post enc Try.prog Try.f6 false true false false) :=
  law_lifted (C := Try.checked) (pin := pin6) (F := F6) (tb := 4) own (by kernel_rfl) Try.func6 k6 (by kernel_rfl) rfl rfl (by kernel_rfl)
    (fun H ds h => by match ds, h with | [d1, d2], _ => rfl) (by kernel_rfl) (by kernel_rfl)
    (fun x ox => by
      obtain ⟨a1, a2, ⟨⟩⟩ := x
      obtain ⟨_, ⟨hl, hk⟩, _⟩ := ox
      exact plays_law (Nat.le_trans hl (by decide)))
    os started H enc
    (ChangeSpec.witness6 (enc := enc) (C := Try.checked) false ⟨#[], #[.int .i64 0, .slice none 0 0], []⟩ 8 (by kernel_rfl) (by kernel_rfl) (by kernel_rfl) (by kernel_rfl))
theorem over : Rows.heapPlaysRow.holds Try.pinned (OpenSpec.ofChange Rows.heapPlaysSpec) :=
  OpenClaim.holds_of_wide 6 Try.f6 rfl rfl rfl rfl rfl rfl rfl ⟨rfl, rfl, rfl, rfl, rfl⟩ rfl rfl rfl rfl rfl (by kernel_rfl) Try.func6 (by kernel_rfl)
    (of_decide_eq_true (by kernel_rfl)) (by unfold Func.isWrapper; first | (rw [if_pos (by decide +kernel)]; kernel_rfl) | (rw [if_neg (by decide +kernel)]; exact ⟨rfl, rfl⟩))
    (fun os started H enc _ => lifted os started H enc)
theorem proved : Rows.HeapPlaysSaid := over
#print axioms proved
end Go.Proofs.Ytinjfnjhhdjklaa.heapPlays
namespace Go.Proofs.Ytinjfnjhhdjklaa
theorem heapPlays_holds : Rows.HeapPlaysSaid := heapPlays.proved
end Go.Proofs.Ytinjfnjhhdjklaa
