/- The statement PunctureSums: proved for every input: the engine's reading of its code, and the plain law of it. No condition. -/
import Derived.Test.YthmjbopniblfbaaRows
import Derived.Test.YthmjbopniblfbaaE4
import Derived.Test.YthmjbopniblfbaaQ1
import Derived.WalkKit
import Derived.ProofKit
namespace Go.Proofs.Ythmjbopniblfbaa.punctureSums
open Go.Eng Go.Eng.Pu
set_option linter.unusedVariables false
theorem own : ownKnob Try.prog.godebug = none := by kernel_rfl
set_option maxRecDepth 100000 in
theorem lifted (os : Os) (started : os.Started) (H : Type) (enc : TypeId × Value → H) :
    ReturnsInHanded {} Try.checked os 11 .any (Rows.punctureSumsSpec.pre6 enc Try.prog Try.f11 Rows.punctureSumsRow.domain false) (Rows.punctureSumsSpec.post enc Try.prog Try.f11 false true false false) :=
  law_lifted (C := Try.checked) (pin := pin11) (F := F11) (tb := 4) own (by kernel_rfl) Try.func11 k11 (by kernel_rfl) rfl rfl (by kernel_rfl)
    (fun H ds h => by match ds, h with | [d1], _ => rfl) (by kernel_rfl) (by kernel_rfl)
    (fun x ox => by
      obtain ⟨⟨per, keep, Kc, rate, gens, n, m, L, w, path, ⟨⟩⟩, ⟨⟩⟩ := x
      obtain ⟨⟨_, ⟨hl, hk⟩, _, _, ⟨hgl, hgk⟩, _, _, _, ⟨hwl, hw⟩, ⟨hpl, hp⟩, _⟩, _⟩ := ox
      have hw8 : ∀ x ∈ w, 0 ≤ x ∧ x ≤ 255 := fun x hx => hw x hx
      have hp8 : ∀ x ∈ path, 0 ≤ x ∧ x ≤ 255 := fun x hx => hp x hx
      match keep, hl, hk with
      | [x, y, z], _, hk => exact sums ⟨(hk x (by simp)).1, Int.lt_of_le_of_lt (hk x (by simp)).2 (by decide)⟩ ⟨(hk y (by simp)).1, Int.lt_of_le_of_lt (hk y (by simp)).2 (by decide)⟩ ⟨(hk z (by simp)).1, Int.lt_of_le_of_lt (hk z (by simp)).2 (by decide)⟩ (u32_of hgl hgk) hw8 (Nat.le_trans hwl (by decide)) hp8 (Nat.le_trans hpl (by decide)))
    os started H enc
    (ChangeSpec.witness6 (enc := enc) (C := Try.checked) false ⟨#[], #[.agg #[.int .i64 0, .int .u64 0, .int .u64 0, .int .u64 0, .int .i64 0, .int .i64 0, .int .u32 0, .int .u32 0, .int .u32 0, .int .i64 0, .int .i64 0, .int .i64 0, .int .i64 0, .int .i64 0, .int .i64 0, .int .i64 0, .int .i64 0, .int .i64 0, .int .i64 0, .int .i64 0, .int .i64 0, .int .i64 0, .int .i64 0, .int .i64 0, .int .i64 0, .int .i64 0, .int .i64 0, .int .i64 0, .int .i64 0, .int .i64 0, .int .i64 0, .int .i64 0, .int .i64 0, .int .i64 0, .int .i64 0, .int .i64 0, .int .i64 0, .int .i64 0, .int .i64 0, .int .i64 0, .int .i64 0, .int .i64 0, .int .i64 0, .slice none 0 0, .slice none 0 0]], []⟩ 8 (by kernel_rfl) (by kernel_rfl) (by kernel_rfl) (by kernel_rfl))
theorem over : Rows.punctureSumsRow.holds Try.pinned (OpenSpec.ofChange Rows.punctureSumsSpec) :=
  OpenClaim.holds_of_wide 11 Try.f11 rfl rfl rfl rfl rfl rfl rfl ⟨rfl, rfl, rfl, rfl, rfl⟩ rfl rfl rfl rfl rfl (by kernel_rfl) Try.func11 (by kernel_rfl)
    (of_decide_eq_true (by kernel_rfl)) (by unfold Func.isWrapper; first | (rw [if_pos (by decide +kernel)]; kernel_rfl) | (rw [if_neg (by decide +kernel)]; exact ⟨rfl, rfl⟩))
    (fun os started H enc _ => lifted os started H enc)
theorem proved : Rows.PunctureSumsSaid := over
#print axioms proved
end Go.Proofs.Ythmjbopniblfbaa.punctureSums
namespace Go.Proofs.Ythmjbopniblfbaa
theorem punctureSums_holds : Rows.PunctureSumsSaid := punctureSums.proved
end Go.Proofs.Ythmjbopniblfbaa
