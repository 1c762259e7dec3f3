/- The statement HeapMark: proved for every input: the engine's reading of its code, and the plain law of it. No condition. -/
import Derived.Test.YtinjfnjhhdjklaaRows
import Derived.Test.YtinjfnjhhdjklaaQ1
import Derived.WalkKit
import Derived.ProofKit
namespace Go.Proofs.Ytinjfnjhhdjklaa.heapMark
open Go.Eng Go.Eng.He
set_option linter.unusedVariables false
theorem own : ownKnob Try.prog.godebug = none := by kernel_rfl
set_option maxRecDepth 100000 in
theorem lifted (os : Os) (started : os.Started) (H : Type) (enc : TypeId × Value → H) :
    ReturnsInHanded {} Try.checked os 4 .any (Rows.heapMarkSpec.pre6 enc Try.prog Try.f4 Rows.heapMarkRow.domain false) (Rows.heapMarkSpec.post enc Try.prog Try.f4 false true false false) :=
  law_lifted (C := Try.checked) (pin := pin4) (F := F4) (tb := 4) own (by kernel_rfl) Try.func4 k4 (by kernel_rfl) rfl rfl (by kernel_rfl)
    (fun H ds h => by match ds, h with | [d1, d2], _ => rfl) (by kernel_rfl) (by kernel_rfl)
    (fun x ox => by
      obtain ⟨a1, a2, ⟨⟩⟩ := x
      obtain ⟨⟨hl, hk⟩, h2, _⟩ := ox
      exact mark_law (Nat.le_trans hl (by decide)) h2.1 h2.2)
    os started H enc
    (ChangeSpec.witness6 (enc := enc) (C := Try.checked) false ⟨#[], #[.slice none 0 0, .int .i64 0], []⟩ 8 (by kernel_rfl) (by kernel_rfl) (by kernel_rfl) (by kernel_rfl))
theorem over : Rows.heapMarkRow.holds Try.pinned (OpenSpec.ofChange Rows.heapMarkSpec) :=
  OpenClaim.holds_of_wide 4 Try.f4 rfl rfl rfl rfl rfl rfl rfl ⟨rfl, rfl, rfl, rfl, rfl⟩ rfl rfl rfl rfl rfl (by kernel_rfl) Try.func4 (by kernel_rfl)
    (of_decide_eq_true (by kernel_rfl)) (by unfold Func.isWrapper; first | (rw [if_pos (by decide +kernel)]; kernel_rfl) | (rw [if_neg (by decide +kernel)]; exact ⟨rfl, rfl⟩))
    (fun os started H enc _ => lifted os started H enc)
theorem proved : Rows.HeapMarkSaid := over
#print axioms proved
end Go.Proofs.Ytinjfnjhhdjklaa.heapMark
namespace Go.Proofs.Ytinjfnjhhdjklaa
theorem heapMark_holds : Rows.HeapMarkSaid := heapMark.proved
end Go.Proofs.Ytinjfnjhhdjklaa
