/- FnExactCloseRing returns true of every ring, and the ring reads as it did. No condition. -/
import Derived.Test.YtcgkejggkenecaaFnCs
import Derived.Test.YtcgkejggkenecaaLwT
import Derived.Test.YtcgkejggkenecaaGyRing
namespace Go.Proofs.Ytcgkejggkenecaa
open Go Go.RowKit Go.Bv
set_option linter.unusedSimpArgs false
set_option linter.unusedVariables false
theorem s_FnExactCloseRing {xs : List AV} (h : TyAll Try.prog [26] xs) : Sound P 6 xs (.bool true) := by
  obtain ⟨x, rfl, hx⟩ := tyAll_one h
  obtain ⟨r, rfl, hr⟩ := ty_Ring hx
  exact c_laws_FnExactCloseRing r rfl hr
set_option maxRecDepth 100000 in
theorem lifted_FnExactCloseRing (os : Os) (started : os.Started) (H : Type) (enc : TypeId × Value → H) :
    ReturnsInHanded {} Try.checked os 6 .any (Rows.fnExactCloseRingSpec.pre6 enc Try.prog Try.f6 Rows.fnExactCloseRingRow.domain false) (Rows.fnExactCloseRingSpec.post enc Try.prog Try.f6 false true false false) := by
  refine law_lifted (C := Try.checked) own started (by kernel_rfl) Try.func6
    (ChangeSpec.witness6 (enc := enc) (C := Try.checked) false ⟨#[], #[.agg #[.int .i64 0, .int .i64 0, .slice none 0 0, .int .i64 0, .slice none 0 0, .slice none 0 0, .slice none 0 0, .bool false]], []⟩ 8 (by kernel_rfl) (by kernel_rfl) (by kernel_rfl) (by kernel_rfl)) laidOut rfl (by kernel_rfl) (rt := 4) rfl Try.underlying4 ?_ gw ?_
  · intro ds h
    rw [Try.params6] at h
    obtain ⟨d, rfl⟩ := lens_one h
    exact ⟨rfl, rfl, rfl⟩
  · intro xs h
    rw [Try.params6] at h
    exact s_FnExactCloseRing h
theorem over_FnExactCloseRing : Rows.fnExactCloseRingRow.holds Try.pinned (OpenSpec.ofChange Rows.fnExactCloseRingSpec) :=
  OpenClaim.holds_of_wide 6 Try.f6 rfl rfl rfl rfl rfl rfl rfl ⟨rfl, rfl, rfl, rfl, rfl⟩ rfl rfl rfl rfl rfl (by kernel_rfl) Try.func6 (by kernel_rfl)
    (of_decide_eq_true (by kernel_rfl)) (by unfold Func.isWrapper; first | (rw [if_pos (by decide +kernel)]; kernel_rfl) | (rw [if_neg (by decide +kernel)]; exact ⟨rfl, rfl⟩))
    (fun os started H enc _ => lifted_FnExactCloseRing os started H enc)
/-- The row, for the claim. -/
theorem fnExactCloseRing_holds : Rows.FnExactCloseRingSaid := over_FnExactCloseRing
#print axioms fnExactCloseRing_holds
end Go.Proofs.Ytcgkejggkenecaa
