/- FnExactBoth returns true of any two filters, and the filters read as they did. No condition. -/
import Derived.Test.YtjmodjanaeoiiaaFnM
import Derived.Test.YtjmodjanaeoiiaaLwT
namespace Go.Proofs.Ytjmodjanaeoiiaa
open Go Go.RowKit Go.Bv
set_option linter.unusedSimpArgs false
set_option linter.unusedVariables false
theorem s_FnExactBoth {xs : List AV} (h : TyAll Try.prog [22, 22] xs) : Sound P 5 xs (.bool true) := by
  obtain ⟨x, y, rfl, hx, hy⟩ := tyAll_two h
  obtain ⟨f, rfl, hl, hs⟩ := ty_terms hx
  obtain ⟨g, rfl, hl', hs'⟩ := ty_terms hy
  exact c_laws_FnExactBoth f g (reach_lt hl) (reach_lt hl') (fun t ht => reach_lt (hs t ht)) (fun t ht => reach_lt (hs' t ht))
set_option maxRecDepth 100000 in
theorem lifted_FnExactBoth (os : Os) (started : os.Started) (H : Type) (enc : TypeId × Value → H) :
    ReturnsInHanded {} Try.checked os 5 .any (Rows.fnExactBothSpec.pre6 enc Try.prog Try.f5 Rows.fnExactBothRow.domain false) (Rows.fnExactBothSpec.post enc Try.prog Try.f5 false true false false) := by
  refine law_lifted (C := Try.checked) own started (by kernel_rfl) Try.func5
    (ChangeSpec.witness6 (enc := enc) (C := Try.checked) false ⟨#[], #[.slice none 0 0, .slice none 0 0], []⟩ 8 (by kernel_rfl) (by kernel_rfl) (by kernel_rfl) (by kernel_rfl)) laidOut rfl (by kernel_rfl) (rt := 4) rfl Try.underlying4 ?_ ?_
  · intro ds h
    rw [Try.params5] at h
    obtain ⟨d, e, rfl⟩ := lens_two h
    exact ⟨rfl, rfl, rfl⟩
  · intro xs h
    rw [Try.params5] at h
    exact s_FnExactBoth h
theorem over_FnExactBoth : Rows.fnExactBothRow.holds Try.pinned (OpenSpec.ofChange Rows.fnExactBothSpec) :=
  OpenClaim.holds_of_wide 5 Try.f5 rfl rfl rfl rfl rfl rfl rfl ⟨rfl, rfl, rfl, rfl, rfl⟩ rfl rfl rfl rfl rfl (by kernel_rfl) Try.func5 (by kernel_rfl)
    (of_decide_eq_true (by kernel_rfl)) (by unfold Func.isWrapper; first | (rw [if_pos (by decide +kernel)]; kernel_rfl) | (rw [if_neg (by decide +kernel)]; exact ⟨rfl, rfl⟩))
    (fun os started H enc _ => lifted_FnExactBoth os started H enc)
/-- The row, for the claim. -/
theorem fnExactBoth_holds : Rows.FnExactBothSaid := over_FnExactBoth
#print axioms fnExactBoth_holds
end Go.Proofs.Ytjmodjanaeoiiaa
