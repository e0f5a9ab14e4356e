/- FnExactRingOk returns true of every ring, and the ring reads as it did. No condition. -/
import Derived.Test.YtcgkejggkenecaaFnLw
import Derived.Test.YtcgkejggkenecaaLwT
import Derived.Test.YtcgkejggkenecaaGyRing
namespace Go.Proofs.Ytcgkejggkenecaa
open Go Go.RowKit Go.Bv
set_option linter.unusedSimpArgs false
set_option linter.unusedVariables false
theorem s_FnExactRingOk {xs : List AV} (h : TyAll Try.prog [26] xs) : Sound P 3 xs (.bool true) := by
  obtain ⟨x, rfl, hx⟩ := tyAll_one h
  obtain ⟨r, rfl, hr⟩ := ty_Ring hx
  exact c_laws_FnExactRingOk r rfl hr
set_option maxRecDepth 100000 in
theorem lifted_FnExactRingOk (os : Os) (started : os.Started) (H : Type) (enc : TypeId × Value → H) :
    ReturnsInHanded {} Try.checked os 3 .any (Rows.fnExactRingOkSpec.pre6 enc Try.prog Try.f3 Rows.fnExactRingOkRow.domain false) (Rows.fnExactRingOkSpec.post enc Try.prog Try.f3 false true false false) := by
  refine law_lifted (C := Try.checked) own started (by kernel_rfl) Try.func3
    (ChangeSpec.witness6 (enc := enc) (C := Try.checked) false ⟨#[], #[.agg #[.int .i64 0, .int .i64 0, .slice none 0 0, .int .i64 0, .slice none 0 0, .slice none 0 0, .slice none 0 0, .bool false]], []⟩ 8 (by kernel_rfl) (by kernel_rfl) (by kernel_rfl) (by kernel_rfl)) laidOut rfl (by kernel_rfl) (rt := 4) rfl Try.underlying4 ?_ gw ?_
  · intro ds h
    rw [Try.params3] at h
    obtain ⟨d, rfl⟩ := lens_one h
    exact ⟨rfl, rfl, rfl⟩
  · intro xs h
    rw [Try.params3] at h
    exact s_FnExactRingOk h
theorem over_FnExactRingOk : Rows.fnExactRingOkRow.holds Try.pinned (OpenSpec.ofChange Rows.fnExactRingOkSpec) :=
  OpenClaim.holds_of_wide 3 Try.f3 rfl rfl rfl rfl rfl rfl rfl ⟨rfl, rfl, rfl, rfl, rfl⟩ rfl rfl rfl rfl rfl (by kernel_rfl) Try.func3 (by kernel_rfl)
    (of_decide_eq_true (by kernel_rfl)) (by unfold Func.isWrapper; first | (rw [if_pos (by decide +kernel)]; kernel_rfl) | (rw [if_neg (by decide +kernel)]; exact ⟨rfl, rfl⟩))
    (fun os started H enc _ => lifted_FnExactRingOk os started H enc)
/-- The row, for the claim. -/
theorem fnExactRingOk_holds : Rows.FnExactRingOkSaid := over_FnExactRingOk
#print axioms fnExactRingOk_holds
end Go.Proofs.Ytcgkejggkenecaa
