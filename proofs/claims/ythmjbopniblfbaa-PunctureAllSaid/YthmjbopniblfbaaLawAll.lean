/- The statement PunctureAll: proved for every input: the engine's reading of its code, and the plain law of it. No condition. -/
import Derived.Test.YthmjbopniblfbaaRows
import Derived.Test.YthmjbopniblfbaaE4
import Derived.Test.YthmjbopniblfbaaQ1
import Derived.WalkKit
import Derived.ProofKit
namespace Go.Proofs.Ythmjbopniblfbaa.punctureAll
open Go.Eng Go.Eng.Pu
set_option linter.unusedVariables false
theorem own : ownKnob Try.prog.godebug = none := by kernel_rfl
set_option maxRecDepth 100000 in
theorem lifted (os : Os) (started : os.Started) (H : Type) (enc : TypeId × Value → H) :
    ReturnsInHanded {} Try.checked os 10 .any (Rows.punctureAllSpec.pre6 enc Try.prog Try.f10 Rows.punctureAllRow.domain false) (Rows.punctureAllSpec.post enc Try.prog Try.f10 false true false false) :=
  law_lifted (C := Try.checked) (pin := pin10) (F := F10) (tb := 4) own (by kernel_rfl) Try.func10 k10 (by kernel_rfl) rfl rfl (by kernel_rfl)
    (fun H ds h => by match ds, h with | [d1, d2, d3], _ => rfl) (by kernel_rfl) (by kernel_rfl)
    (fun x ox => by
      obtain ⟨⟨Kc, rate, g, n, m, L, w, ⟨⟩⟩, path, period, ⟨⟩⟩ := x
      obtain ⟨⟨_, _, ⟨hgl, hgk⟩, _, _, _, ⟨hwl, hw⟩, _⟩, ⟨hpl, hp⟩, _⟩ := ox
      exact all_law (u32_of hgl hgk) (fun v hv => hw v hv) (Nat.le_trans hwl (by decide)) (fun v hv => hp v hv) (Nat.le_trans hpl (by decide)))
    os started H enc
    (ChangeSpec.witness6 (enc := enc) (C := Try.checked) false ⟨#[], #[.agg #[.int .i64 0, .int .i64 0, .int .u32 0, .int .u32 0, .int .u32 0, .int .i64 0, .int .i64 0, .int .i64 0, .int .i64 0, .int .i64 0, .int .i64 0, .int .i64 0, .int .i64 0, .int .i64 0, .int .i64 0, .int .i64 0, .int .i64 0, .int .i64 0, .int .i64 0, .int .i64 0, .int .i64 0, .int .i64 0, .int .i64 0, .int .i64 0, .int .i64 0, .int .i64 0, .int .i64 0, .int .i64 0, .int .i64 0, .int .i64 0, .int .i64 0, .int .i64 0, .int .i64 0, .int .i64 0, .int .i64 0, .int .i64 0, .int .i64 0, .int .i64 0, .int .i64 0, .slice none 0 0], .slice none 0 0, .int .i64 0], []⟩ 8 (by kernel_rfl) (by kernel_rfl) (by kernel_rfl) (by kernel_rfl))
theorem over : Rows.punctureAllRow.holds Try.pinned (OpenSpec.ofChange Rows.punctureAllSpec) :=
  OpenClaim.holds_of_wide 10 Try.f10 rfl rfl rfl rfl rfl rfl rfl ⟨rfl, rfl, rfl, rfl, rfl⟩ rfl rfl rfl rfl rfl (by kernel_rfl) Try.func10 (by kernel_rfl)
    (of_decide_eq_true (by kernel_rfl)) (by unfold Func.isWrapper; first | (rw [if_pos (by decide +kernel)]; kernel_rfl) | (rw [if_neg (by decide +kernel)]; exact ⟨rfl, rfl⟩))
    (fun os started H enc _ => lifted os started H enc)
theorem proved : Rows.PunctureAllSaid := over
#print axioms proved
end Go.Proofs.Ythmjbopniblfbaa.punctureAll
namespace Go.Proofs.Ythmjbopniblfbaa
theorem punctureAll_holds : Rows.PunctureAllSaid := punctureAll.proved
end Go.Proofs.Ythmjbopniblfbaa
