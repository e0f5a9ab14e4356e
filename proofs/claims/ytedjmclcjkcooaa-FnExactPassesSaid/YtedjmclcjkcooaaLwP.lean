/- FnExactPasses returns true of every filter and message, and both read as they did. No condition. -/
import Derived.Test.YtedjmclcjkcooaaFnPl
import Derived.Test.YtedjmclcjkcooaaLwT
import Derived.Test.YtedjmclcjkcooaaGyTerm
import Derived.Test.YtedjmclcjkcooaaGyMsg
namespace Go.Proofs.Ytedjmclcjkcooaa
open Go Go.RowKit Go.Bv
set_option linter.unusedSimpArgs false
set_option linter.unusedVariables false
theorem s_FnExactPasses {xs : List AV} (h : TyAll Try.prog [22, 24] xs) : Sound P 3 xs (.bool true) := by
  obtain ⟨x, y, rfl, hx, hy⟩ := tyAll_two h
  obtain ⟨f, rfl, hf⟩ := ty_TermS hx
  obtain ⟨m, rfl, hm⟩ := ty_Msg hy
  exact c_laws_FnExactPasses f m rfl hf hm
set_option maxRecDepth 100000 in
theorem lifted_FnExactPasses (os : Os) (started : os.Started) (H : Type) (enc : TypeId × Value → H) :
    ReturnsInHanded {} Try.checked os 3 .any (Rows.fnExactPassesSpec.pre6 enc Try.prog Try.f3 Rows.fnExactPassesRow.domain false) (Rows.fnExactPassesSpec.post enc Try.prog Try.f3 false true false false) := by
  refine law_lifted (C := Try.checked) own started (by kernel_rfl) Try.func3
    (ChangeSpec.witness6 (enc := enc) (C := Try.checked) false ⟨#[], #[.slice none 0 0, .agg #[.int .i64 0, .int .i64 0, .string ⟨#[]⟩]], []⟩ 8 (by kernel_rfl) (by kernel_rfl) (by kernel_rfl) (by kernel_rfl)) laidOut rfl (by kernel_rfl) (rt := 4) rfl Try.underlying4 ?_ gw ?_
  · intro ds h
    rw [Try.params3] at h
    obtain ⟨d, e, rfl⟩ := lens_two h
    exact ⟨rfl, rfl, rfl⟩
  · intro xs h
    rw [Try.params3] at h
    exact s_FnExactPasses h
theorem over_FnExactPasses : Rows.fnExactPassesRow.holds Try.pinned (OpenSpec.ofChange Rows.fnExactPassesSpec) :=
  OpenClaim.holds_of_wide 3 Try.f3 rfl rfl rfl rfl rfl rfl rfl ⟨rfl, rfl, rfl, rfl, rfl⟩ rfl rfl rfl rfl rfl (by kernel_rfl) Try.func3 (by kernel_rfl)
    (of_decide_eq_true (by kernel_rfl)) (by unfold Func.isWrapper; first | (rw [if_pos (by decide +kernel)]; kernel_rfl) | (rw [if_neg (by decide +kernel)]; exact ⟨rfl, rfl⟩))
    (fun os started H enc _ => lifted_FnExactPasses os started H enc)
/-- The row, for the claim. -/
theorem fnExactPasses_holds : Rows.FnExactPassesSaid := over_FnExactPasses
#print axioms fnExactPasses_holds
end Go.Proofs.Ytedjmclcjkcooaa
