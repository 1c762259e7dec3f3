/- The statement PunctureWidens: proved for every input: the engine's reading of its code, and the plain law of it. No condition. -/
import Derived.Test.YthmjbopniblfbaaRows
import Derived.Test.YthmjbopniblfbaaQ1
import Derived.WalkKit
import Derived.ProofKit
namespace Go.Proofs.Ythmjbopniblfbaa.punctureWidens
open Go.Eng Go.Eng.Pu
set_option linter.unusedVariables false
theorem own : ownKnob Try.prog.godebug = none := by kernel_rfl
set_option maxRecDepth 100000 in
theorem lifted (os : Os) (started : os.Started) (H : Type) (enc : TypeId × Value → H) :
    ReturnsInHanded {} Try.checked os 8 .any (Rows.punctureWidensSpec.pre6 enc Try.prog Try.f8 Rows.punctureWidensRow.domain false) (Rows.punctureWidensSpec.post enc Try.prog Try.f8 false true false false) :=
  law_lifted (C := Try.checked) (pin := pin8) (F := F8) (tb := 4) own (by kernel_rfl) Try.func8 k8 (by kernel_rfl) rfl rfl (by kernel_rfl)
    (fun H ds h => by match ds, h with | [d1], _ => rfl) (by kernel_rfl) (by kernel_rfl)
    (fun x ox => by
      obtain ⟨⟨n, m, ⟨⟩⟩, ⟨⟩⟩ := x
      exact widens)
    os started H enc
    (ChangeSpec.witness6 (enc := enc) (C := Try.checked) false ⟨#[], #[.agg (#[.int .i64 0] ++ (List.replicate 32 (.int .i64 0)).toArray)], []⟩ 8 (by kernel_rfl) (by kernel_rfl) (by kernel_rfl) (by kernel_rfl))
theorem over : Rows.punctureWidensRow.holds Try.pinned (OpenSpec.ofChange Rows.punctureWidensSpec) :=
  OpenClaim.holds_of_wide 8 Try.f8 rfl rfl rfl rfl rfl rfl rfl ⟨rfl, rfl, rfl, rfl, rfl⟩ rfl rfl rfl rfl rfl (by kernel_rfl) Try.func8 (by kernel_rfl)
    (of_decide_eq_true (by kernel_rfl)) (by unfold Func.isWrapper; first | (rw [if_pos (by decide +kernel)]; kernel_rfl) | (rw [if_neg (by decide +kernel)]; exact ⟨rfl, rfl⟩))
    (fun os started H enc _ => lifted os started H enc)
theorem proved : Rows.PunctureWidensSaid := over
#print axioms proved
end Go.Proofs.Ythmjbopniblfbaa.punctureWidens
namespace Go.Proofs.Ythmjbopniblfbaa
theorem punctureWidens_holds : Rows.PunctureWidensSaid := punctureWidens.proved
end Go.Proofs.Ythmjbopniblfbaa
