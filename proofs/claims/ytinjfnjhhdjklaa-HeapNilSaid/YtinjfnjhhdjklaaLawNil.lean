/- The statement HeapNil: proved for every input: the engine's reading of its code, and the plain law of it. No condition. -/
import Derived.Test.YtinjfnjhhdjklaaRows
import Derived.Test.YtinjfnjhhdjklaaQ1
import Derived.WalkKit
import Derived.ProofKit
namespace Go.Proofs.Ytinjfnjhhdjklaa.heapNil
open Go.Eng Go.Eng.He
set_option linter.unusedVariables false
theorem own : ownKnob Try.prog.godebug = none := by kernel_rfl
set_option maxRecDepth 100000 in
theorem lifted (os : Os) (started : os.Started) (H : Type) (enc : TypeId × Value → H) :
    ReturnsInHanded {} Try.checked os 8 .any (Rows.heapNilSpec.pre6 enc Try.prog Try.f8 Rows.heapNilRow.domain false) (Rows.heapNilSpec.post enc Try.prog Try.f8 false true false false) :=
  law_lifted (C := Try.checked) (pin := pin8) (F := F8) (tb := 4) own (by kernel_rfl) Try.func8 k8 (by kernel_rfl) rfl rfl (by kernel_rfl)
    (fun H ds h => by match ds, h with | [d1], _ => rfl) (by kernel_rfl) (by kernel_rfl)
    (fun x ox => by
      obtain ⟨a1, ⟨⟩⟩ := x
      obtain ⟨⟨hl, hk⟩, _⟩ := ox
      exact nil_law (Nat.le_trans hl (by decide)))
    os started H enc
    (ChangeSpec.witness6 (enc := enc) (C := Try.checked) false ⟨#[], #[.slice none 0 0], []⟩ 8 (by kernel_rfl) (by kernel_rfl) (by kernel_rfl) (by kernel_rfl))
theorem over : Rows.heapNilRow.holds Try.pinned (OpenSpec.ofChange Rows.heapNilSpec) :=
  OpenClaim.holds_of_wide 8 Try.f8 rfl rfl rfl rfl rfl rfl rfl ⟨rfl, rfl, rfl, rfl, rfl⟩ rfl rfl rfl rfl rfl (by kernel_rfl) Try.func8 (by kernel_rfl)
    (of_decide_eq_true (by kernel_rfl)) (by unfold Func.isWrapper; first | (rw [if_pos (by decide +kernel)]; kernel_rfl) | (rw [if_neg (by decide +kernel)]; exact ⟨rfl, rfl⟩))
    (fun os started H enc _ => lifted os started H enc)
theorem proved : Rows.HeapNilSaid := over
#print axioms proved
end Go.Proofs.Ytinjfnjhhdjklaa.heapNil
namespace Go.Proofs.Ytinjfnjhhdjklaa
theorem heapNil_holds : Rows.HeapNilSaid := heapNil.proved
end Go.Proofs.Ytinjfnjhhdjklaa
