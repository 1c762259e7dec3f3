/- The statement HeapSorts: proved for every input: the engine's reading of its code, and the plain law of it. No condition. -/
import Derived.Test.YtinjfnjhhdjklaaRows
import Derived.Test.YtinjfnjhhdjklaaE4
import Derived.Test.YtinjfnjhhdjklaaQ1
import Derived.WalkKit
import Derived.ProofKit
namespace Go.Proofs.Ytinjfnjhhdjklaa.heapSorts
open Go.Eng Go.Eng.He
set_option linter.unusedVariables false
theorem own : ownKnob Try.prog.godebug = none := by kernel_rfl
set_option maxRecDepth 100000 in
theorem lifted (os : Os) (started : os.Started) (H : Type) (enc : TypeId × Value → H) :
    ReturnsInHanded {} Try.checked os 3 .any (Rows.heapSortsSpec.pre6 enc Try.prog Try.f3 Rows.heapSortsRow.domain false) (Rows.heapSortsSpec.post enc Try.prog Try.f3 false true false false) :=
  law_lifted (C := Try.checked) (pin := pin3) (F := F3) (tb := 4) own (by kernel_rfl) Try.func3 k3 (by kernel_rfl) rfl rfl (by kernel_rfl)
    (fun H ds h => by match ds, h with | [d1, d2], _ => rfl) (by kernel_rfl) (by kernel_rfl)
    (fun x ox => by
      obtain ⟨a1, a2, ⟨⟩⟩ := x
      obtain ⟨⟨hl, hk⟩, h2, _⟩ := ox
      exact sorts_law (Nat.le_trans hl (by decide)) h2.1 h2.2)
    os started H enc
    (ChangeSpec.witness6 (enc := enc) (C := Try.checked) false ⟨#[], #[.slice none 0 0, .int .i64 0], []⟩ 8 (by kernel_rfl) (by kernel_rfl) (by kernel_rfl) (by kernel_rfl))
theorem over : Rows.heapSortsRow.holds Try.pinned (OpenSpec.ofChange Rows.heapSortsSpec) :=
  OpenClaim.holds_of_wide 3 Try.f3 rfl rfl rfl rfl rfl rfl rfl ⟨rfl, rfl, rfl, rfl, rfl⟩ rfl rfl rfl rfl rfl (by kernel_rfl) Try.func3 (by kernel_rfl)
    (of_decide_eq_true (by kernel_rfl)) (by unfold Func.isWrapper; first | (rw [if_pos (by decide +kernel)]; kernel_rfl) | (rw [if_neg (by decide +kernel)]; exact ⟨rfl, rfl⟩))
    (fun os started H enc _ => lifted os started H enc)
theorem proved : Rows.HeapSortsSaid := over
#print axioms proved
end Go.Proofs.Ytinjfnjhhdjklaa.heapSorts
namespace Go.Proofs.Ytinjfnjhhdjklaa
theorem heapSorts_holds : Rows.HeapSortsSaid := heapSorts.proved
end Go.Proofs.Ytinjfnjhhdjklaa
