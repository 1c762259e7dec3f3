/- The statement PunctureCuts: proved for every input: the engine's reading of its code, and the plain law of it. No condition. -/
import Derived.Test.YthmjbopniblfbaaRows
import Derived.Test.YthmjbopniblfbaaE4
import Derived.Test.YthmjbopniblfbaaQ1
import Derived.WalkKit
import Derived.ProofKit
namespace Go.Proofs.Ythmjbopniblfbaa.punctureCuts
open Go.Eng Go.Eng.Pu
set_option linter.unusedVariables false
theorem own : ownKnob Try.prog.godebug = none := by kernel_rfl
set_option maxRecDepth 100000 in
theorem lifted (os : Os) (started : os.Started) (H : Type) (enc : TypeId × Value → H) :
    ReturnsInHanded {} Try.checked os 3 .any (Rows.punctureCutsSpec.pre6 enc Try.prog Try.f3 Rows.punctureCutsRow.domain false) (Rows.punctureCutsSpec.post enc Try.prog Try.f3 false true false false) :=
  law_lifted (C := Try.checked) (pin := pin3) (F := F3) (tb := 4) own (by kernel_rfl) Try.func3 k3 (by kernel_rfl) rfl rfl (by kernel_rfl)
    (fun H ds h => by match ds, h with | [d1, d2, d3], _ => rfl) (by kernel_rfl) (by kernel_rfl)
    (fun x ox => by
      obtain ⟨⟨per, keep, ⟨⟩⟩, rate, l, ⟨⟩⟩ := x
      obtain ⟨⟨_, ⟨hl, hk⟩, _⟩, _, ⟨hwl, hw⟩, _⟩ := ox
      match keep, hl, hk with
      | [x, y, z], _, hk => exact cuts ⟨(hk x (by simp)).1, Int.lt_of_le_of_lt (hk x (by simp)).2 (by decide)⟩ ⟨(hk y (by simp)).1, Int.lt_of_le_of_lt (hk y (by simp)).2 (by decide)⟩ ⟨(hk z (by simp)).1, Int.lt_of_le_of_lt (hk z (by simp)).2 (by decide)⟩ hwl)
    os started H enc
    (ChangeSpec.witness6 (enc := enc) (C := Try.checked) false ⟨#[], #[.agg #[.int .i64 0, .int .u64 0, .int .u64 0, .int .u64 0], .int .i64 0, .slice none 0 0], []⟩ 8 (by kernel_rfl) (by kernel_rfl) (by kernel_rfl) (by kernel_rfl))
theorem over : Rows.punctureCutsRow.holds Try.pinned (OpenSpec.ofChange Rows.punctureCutsSpec) :=
  OpenClaim.holds_of_wide 3 Try.f3 rfl rfl rfl rfl rfl rfl rfl ⟨rfl, rfl, rfl, rfl, rfl⟩ rfl rfl rfl rfl rfl (by kernel_rfl) Try.func3 (by kernel_rfl)
    (of_decide_eq_true (by kernel_rfl)) (by unfold Func.isWrapper; first | (rw [if_pos (by decide +kernel)]; kernel_rfl) | (rw [if_neg (by decide +kernel)]; exact ⟨rfl, rfl⟩))
    (fun os started H enc _ => lifted os started H enc)
theorem proved : Rows.PunctureCutsSaid := over
#print axioms proved
end Go.Proofs.Ythmjbopniblfbaa.punctureCuts
namespace Go.Proofs.Ythmjbopniblfbaa
theorem punctureCuts_holds : Rows.PunctureCutsSaid := punctureCuts.proved
end Go.Proofs.Ythmjbopniblfbaa
