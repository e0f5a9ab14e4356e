/- FnExactNewRing returns true of every number, and the number reads as it did. No condition. -/
import Derived.Test.YtjmodjanaeoiiaaFnN
import Derived.Test.YtjmodjanaeoiiaaLwT
namespace Go.Proofs.Ytjmodjanaeoiiaa
open Go Go.RowKit Go.Bv
set_option linter.unusedSimpArgs false
set_option linter.unusedVariables false
theorem s_FnExactNewRing {xs : List AV} (h : TyAll Try.prog [3] xs) : Sound P 6 xs (.bool true) := by
  obtain ⟨x, rfl, hx⟩ := tyAll_one h
  obtain ⟨c, rfl, _⟩ := ty_Int hx
  exact c_laws_FnExactNewRing c
set_option maxRecDepth 100000 in
theorem lifted_FnExactNewRing (os : Os) (started : os.Started) (H : Type) (enc : TypeId × Value → H) :
    ReturnsInHanded {} Try.checked os 6 .any (Rows.fnExactNewRingSpec.pre6 enc Try.prog Try.f6 Rows.fnExactNewRingRow.domain false) (Rows.fnExactNewRingSpec.post enc Try.prog Try.f6 false true false false) := by
  refine law_lifted (C := Try.checked) own started (by kernel_rfl) Try.func6
    (ChangeSpec.witness6 (enc := enc) (C := Try.checked) false ⟨#[], #[.int .i64 0], []⟩ 8 (by kernel_rfl) (by kernel_rfl) (by kernel_rfl) (by kernel_rfl)) laidOut rfl (by kernel_rfl) (rt := 4) rfl Try.underlying4 ?_ gw ?_
  · intro ds h
    rw [Try.params6] at h
    obtain ⟨d, rfl⟩ := lens_one h
    exact ⟨rfl, rfl, rfl⟩
  · intro xs h
    rw [Try.params6] at h
    exact s_FnExactNewRing h
theorem over_FnExactNewRing : Rows.fnExactNewRingRow.holds Try.pinned (OpenSpec.ofChange Rows.fnExactNewRingSpec) :=
  OpenClaim.holds_of_wide 6 Try.f6 rfl rfl rfl rfl rfl rfl rfl ⟨rfl, rfl, rfl, rfl, rfl⟩ rfl rfl rfl rfl rfl (by kernel_rfl) Try.func6 (by kernel_rfl)
    (of_decide_eq_true (by kernel_rfl)) (by unfold Func.isWrapper; first | (rw [if_pos (by decide +kernel)]; kernel_rfl) | (rw [if_neg (by decide +kernel)]; exact ⟨rfl, rfl⟩))
    (fun os started H enc _ => lifted_FnExactNewRing os started H enc)
/-- The row, for the claim. -/
theorem fnExactNewRing_holds : Rows.FnExactNewRingSaid := over_FnExactNewRing
#print axioms fnExactNewRing_holds
end Go.Proofs.Ytjmodjanaeoiiaa
