/- FnExactSkipTo returns true of every ring and two numbers, and all read as they did. No condition. -/
import Derived.Test.YtcgkejggkenecaaFnSt
import Derived.Test.YtcgkejggkenecaaLwT
import Derived.Test.YtcgkejggkenecaaGyRing
namespace Go.Proofs.Ytcgkejggkenecaa
open Go Go.RowKit Go.Bv
set_option linter.unusedSimpArgs false
set_option linter.unusedVariables false
theorem s_FnExactSkipTo {xs : List AV} (h : TyAll Try.prog [26, 3, 3] xs) : Sound P 9 xs (.bool true) := by
  obtain ⟨x, y, z, rfl, hx, hy, hz⟩ := tyAll_three h
  obtain ⟨r, rfl, hr⟩ := ty_Ring hx
  obtain ⟨id, rfl, _⟩ := ty_Int hy
  obtain ⟨n, rfl, _⟩ := ty_Int hz
  exact c_laws_FnExactSkipTo r id n rfl hr
set_option maxRecDepth 100000 in
theorem lifted_FnExactSkipTo (os : Os) (started : os.Started) (H : Type) (enc : TypeId × Value → H) :
    ReturnsInHanded {} Try.checked os 9 .any (Rows.fnExactSkipToSpec.pre6 enc Try.prog Try.f9 Rows.fnExactSkipToRow.domain false) (Rows.fnExactSkipToSpec.post enc Try.prog Try.f9 false true false false) := by
  refine law_lifted (C := Try.checked) own started (by kernel_rfl) Try.func9
    (ChangeSpec.witness6 (enc := enc) (C := Try.checked) false ⟨#[], #[.agg #[.int .i64 0, .int .i64 0, .slice none 0 0, .int .i64 0, .slice none 0 0, .slice none 0 0, .slice none 0 0, .bool false], .int .i64 0, .int .i64 0], []⟩ 8 (by kernel_rfl) (by kernel_rfl) (by kernel_rfl) (by kernel_rfl)) laidOut rfl (by kernel_rfl) (rt := 4) rfl Try.underlying4 ?_ gw ?_
  · intro ds h
    rw [Try.params9] at h
    obtain ⟨d, e, f, rfl⟩ := lens_three h
    exact ⟨rfl, rfl, rfl⟩
  · intro xs h
    rw [Try.params9] at h
    exact s_FnExactSkipTo h
theorem over_FnExactSkipTo : Rows.fnExactSkipToRow.holds Try.pinned (OpenSpec.ofChange Rows.fnExactSkipToSpec) :=
  OpenClaim.holds_of_wide 9 Try.f9 rfl rfl rfl rfl rfl rfl rfl ⟨rfl, rfl, rfl, rfl, rfl⟩ rfl rfl rfl rfl rfl (by kernel_rfl) Try.func9 (by kernel_rfl)
    (of_decide_eq_true (by kernel_rfl)) (by unfold Func.isWrapper; first | (rw [if_pos (by decide +kernel)]; kernel_rfl) | (rw [if_neg (by decide +kernel)]; exact ⟨rfl, rfl⟩))
    (fun os started H enc _ => lifted_FnExactSkipTo os started H enc)
/-- The row, for the claim. -/
theorem fnExactSkipTo_holds : Rows.FnExactSkipToSaid := over_FnExactSkipTo
#print axioms fnExactSkipTo_holds
end Go.Proofs.Ytcgkejggkenecaa
