/- FnExactPull returns true of every ring, number and most, and both read as they did. No condition. -/
import Derived.Test.YtlgdijjkegeccaaFnQl
import Derived.Test.YtlgdijjkegeccaaKY
namespace Go.Proofs.Ytlgdijjkegeccaa
open Go Go.RowKit Go.Bv
set_option linter.unusedSimpArgs false
set_option linter.unusedVariables false
theorem s_FnExactPull {xs : List AV} (h : TyAll Try.prog [26, 3, 3] xs) : Sound P 5 xs (.bool true) := by
  obtain ⟨x, y, z, rfl, hx, hy, hz⟩ := tyAll_three h
  obtain ⟨r, rfl, hr⟩ := ty_Ring hx
  obtain ⟨id, rfl, _⟩ := ty_Int hy
  obtain ⟨most, rfl, _⟩ := ty_Int hz
  exact c_laws_FnExactPull r id most rfl hr
set_option maxRecDepth 100000 in
theorem lifted_FnExactPull (os : Os) (started : os.Started) (H : Type) (enc : TypeId × Value → H) :
    ReturnsInHanded {} Try.checked os 5 .any (Rows.fnExactPullSpec.pre6 enc Try.prog Try.f5 Rows.fnExactPullRow.domain false) (Rows.fnExactPullSpec.post enc Try.prog Try.f5 false true false false) := by
  refine law_lifted (C := Try.checked) own started (by kernel_rfl) Try.func5
    (ChangeSpec.witness6 (enc := enc) (C := Try.checked) false ⟨#[], #[.agg #[.int .i64 0, .int .i64 0, .slice none 0 0, .int .i64 0, .slice none 0 0, .slice none 0 0, .slice none 0 0, .bool false], .int .i64 0, .int .i64 0], []⟩ 8 (by kernel_rfl) (by kernel_rfl) (by kernel_rfl) (by kernel_rfl)) laidOut rfl (by kernel_rfl) (rt := 4) rfl Try.underlying4 ?_ gw ?_
  · intro ds h
    rw [Try.params5] at h
    obtain ⟨d, e, f, rfl⟩ := lens_three h
    exact ⟨rfl, rfl, rfl⟩
  · intro xs h
    rw [Try.params5] at h
    exact s_FnExactPull h
theorem over_FnExactPull : Rows.fnExactPullRow.holds Try.pinned (OpenSpec.ofChange Rows.fnExactPullSpec) :=
  OpenClaim.holds_of_wide 5 Try.f5 rfl rfl rfl rfl rfl rfl rfl ⟨rfl, rfl, rfl, rfl, rfl⟩ rfl rfl rfl rfl rfl (by kernel_rfl) Try.func5 (by kernel_rfl)
    (of_decide_eq_true (by kernel_rfl)) (by unfold Func.isWrapper; first | (rw [if_pos (by decide +kernel)]; kernel_rfl) | (rw [if_neg (by decide +kernel)]; exact ⟨rfl, rfl⟩))
    (fun os started H enc _ => lifted_FnExactPull os started H enc)
/-- The row, for the claim. -/
theorem fnExactPull_holds : Rows.FnExactPullSaid := over_FnExactPull
#print axioms fnExactPull_holds
end Go.Proofs.Ytlgdijjkegeccaa
