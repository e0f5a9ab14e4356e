/- FnExactSeen returns true of every cell and number, and both read as they did. No condition. -/
import Derived.Test.YtedjmclcjkcooaaFnSe
import Derived.Test.YtedjmclcjkcooaaLwT
import Derived.Test.YtedjmclcjkcooaaGyCell
namespace Go.Proofs.Ytedjmclcjkcooaa
open Go Go.RowKit Go.Bv
set_option linter.unusedSimpArgs false
set_option linter.unusedVariables false
theorem s_FnExactSeen {xs : List AV} (h : TyAll Try.prog [36, 3] xs) : Sound P 4 xs (.bool true) := by
  obtain ⟨x, y, rfl, hx, hy⟩ := tyAll_two h
  obtain ⟨c, rfl, hc⟩ := ty_Cell hx
  obtain ⟨n, rfl, _⟩ := ty_Int hy
  exact c_laws_FnExactSeen c n rfl hc
set_option maxRecDepth 100000 in
theorem lifted_FnExactSeen (os : Os) (started : os.Started) (H : Type) (enc : TypeId × Value → H) :
    ReturnsInHanded {} Try.checked os 4 .any (Rows.fnExactSeenSpec.pre6 enc Try.prog Try.f4 Rows.fnExactSeenRow.domain false) (Rows.fnExactSeenSpec.post enc Try.prog Try.f4 false true false false) := by
  refine law_lifted (C := Try.checked) own started (by kernel_rfl) Try.func4
    (ChangeSpec.witness6 (enc := enc) (C := Try.checked) false ⟨#[], #[.agg #[.int .i64 0, .int .i64 0, .string ⟨#[]⟩, .int .i64 0, .bool false, .slice none 0 0, .slice none 0 0], .int .i64 0], []⟩ 8 (by kernel_rfl) (by kernel_rfl) (by kernel_rfl) (by kernel_rfl)) laidOut rfl (by kernel_rfl) (rt := 4) rfl Try.underlying4 ?_ gw ?_
  · intro ds h
    rw [Try.params4] at h
    obtain ⟨d, e, rfl⟩ := lens_two h
    exact ⟨rfl, rfl, rfl⟩
  · intro xs h
    rw [Try.params4] at h
    exact s_FnExactSeen h
theorem over_FnExactSeen : Rows.fnExactSeenRow.holds Try.pinned (OpenSpec.ofChange Rows.fnExactSeenSpec) :=
  OpenClaim.holds_of_wide 4 Try.f4 rfl rfl rfl rfl rfl rfl rfl ⟨rfl, rfl, rfl, rfl, rfl⟩ rfl rfl rfl rfl rfl (by kernel_rfl) Try.func4 (by kernel_rfl)
    (of_decide_eq_true (by kernel_rfl)) (by unfold Func.isWrapper; first | (rw [if_pos (by decide +kernel)]; kernel_rfl) | (rw [if_neg (by decide +kernel)]; exact ⟨rfl, rfl⟩))
    (fun os started H enc _ => lifted_FnExactSeen os started H enc)
/-- The row, for the claim. -/
theorem fnExactSeen_holds : Rows.FnExactSeenSaid := over_FnExactSeen
#print axioms fnExactSeen_holds
end Go.Proofs.Ytedjmclcjkcooaa
