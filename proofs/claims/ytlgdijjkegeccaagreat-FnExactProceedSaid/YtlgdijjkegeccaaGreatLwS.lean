/- FnExactProceed returns true of every ring and number, and both read as they did. No condition. -/
import Derived.Test.YtlgdijjkegeccaaGreatFnPr
import Derived.Test.YtlgdijjkegeccaaGreatKY
namespace Go.Proofs.YtlgdijjkegeccaaGreat
open Go Go.RowKit Go.Bv
set_option linter.unusedSimpArgs false
set_option linter.unusedVariables false
theorem s_FnExactProceed {xs : List AV} (h : TyAll Tryz.prog [26, 3] xs) : Sound P 3 xs (.bool true) := by
  obtain ⟨x, y, rfl, hx, hy⟩ := tyAll_two h
  obtain ⟨r, rfl, hr⟩ := ty_Ring hx
  obtain ⟨id, rfl, _⟩ := ty_Int hy
  exact c_laws_FnExactProceed r id rfl hr
set_option maxRecDepth 100000 in
theorem lifted_FnExactProceed (os : Os) (started : os.Started) (H : Type) (enc : TypeId × Value → H) :
    ReturnsInHanded {} Tryz.checked os 3 .any (Rows.fnExactProceedSpec.pre6 enc Tryz.prog Tryz.f3 Rows.fnExactProceedRow.domain false) (Rows.fnExactProceedSpec.post enc Tryz.prog Tryz.f3 false true false false) := by
  refine law_lifted (C := Tryz.checked) own started (by kernel_rfl) Tryz.func3
    (ChangeSpec.witness6 (enc := enc) (C := Tryz.checked) false ⟨#[], #[.agg #[.int .i64 0, .int .i64 0, .slice none 0 0, .int .i64 0, .slice none 0 0, .slice none 0 0, .slice none 0 0, .bool false], .int .i64 0], []⟩ 8 (by kernel_rfl) (by kernel_rfl) (by kernel_rfl) (by kernel_rfl)) laidOut rfl (by kernel_rfl) (rt := 4) rfl Tryz.underlying4 ?_ gw ?_
  · intro ds h
    rw [Tryz.params3] at h
    obtain ⟨d, e, rfl⟩ := lens_two h
    exact ⟨rfl, rfl, rfl⟩
  · intro xs h
    rw [Tryz.params3] at h
    exact s_FnExactProceed h
theorem over_FnExactProceed : Rows.fnExactProceedRow.holds Tryz.pinned (OpenSpec.ofChange Rows.fnExactProceedSpec) :=
  OpenClaim.holds_of_wide 3 Tryz.f3 rfl rfl rfl rfl rfl rfl rfl ⟨rfl, rfl, rfl, rfl, rfl⟩ rfl rfl rfl rfl rfl (by kernel_rfl) Tryz.func3 (by kernel_rfl)
    (of_decide_eq_true (by kernel_rfl)) (by unfold Func.isWrapper; first | (rw [if_pos (by decide +kernel)]; kernel_rfl) | (rw [if_neg (by decide +kernel)]; exact ⟨rfl, rfl⟩))
    (fun os started H enc _ => lifted_FnExactProceed os started H enc)
/-- The row, for the claim. -/
theorem fnExactProceed_holds : Rows.FnExactProceedSaid := over_FnExactProceed
#print axioms fnExactProceed_holds
end Go.Proofs.YtlgdijjkegeccaaGreat
