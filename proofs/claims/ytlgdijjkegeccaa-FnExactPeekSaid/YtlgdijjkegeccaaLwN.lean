/- FnExactPeek returns true of every ring and number, and both read as they did. No condition. -/
import Derived.Test.YtlgdijjkegeccaaFnRx
import Derived.Test.YtlgdijjkegeccaaKY
namespace Go.Proofs.Ytlgdijjkegeccaa
open Go Go.RowKit Go.Bv
set_option linter.unusedSimpArgs false
set_option linter.unusedVariables false
theorem s_FnExactPeek {xs : List AV} (h : TyAll Try.prog [26, 3] xs) : Sound P 3 xs (.bool true) := by
  obtain ⟨x, y, rfl, hx, hy⟩ := tyAll_two h
  obtain ⟨r, rfl, hr⟩ := ty_Ring hx
  obtain ⟨id, rfl, _⟩ := ty_Int hy
  exact c_laws_FnExactPeek r id rfl hr
set_option maxRecDepth 100000 in
theorem lifted_FnExactPeek (os : Os) (started : os.Started) (H : Type) (enc : TypeId × Value → H) :
    ReturnsInHanded {} Try.checked os 3 .any (Rows.fnExactPeekSpec.pre6 enc Try.prog Try.f3 Rows.fnExactPeekRow.domain false) (Rows.fnExactPeekSpec.post enc Try.prog Try.f3 false true false false) := by
  refine law_lifted (C := Try.checked) own started (by kernel_rfl) Try.func3
    (ChangeSpec.witness6 (enc := enc) (C := Try.checked) false ⟨#[], #[.agg #[.int .i64 0, .int .i64 0, .slice none 0 0, .int .i64 0, .slice none 0 0, .slice none 0 0, .slice none 0 0, .bool false], .int .i64 0], []⟩ 8 (by kernel_rfl) (by kernel_rfl) (by kernel_rfl) (by kernel_rfl)) laidOut rfl (by kernel_rfl) (rt := 4) rfl Try.underlying4 ?_ gw ?_
  · intro ds h
    rw [Try.params3] at h
    obtain ⟨d, e, rfl⟩ := lens_two h
    exact ⟨rfl, rfl, rfl⟩
  · intro xs h
    rw [Try.params3] at h
    exact s_FnExactPeek h
theorem over_FnExactPeek : Rows.fnExactPeekRow.holds Try.pinned (OpenSpec.ofChange Rows.fnExactPeekSpec) :=
  OpenClaim.holds_of_wide 3 Try.f3 rfl rfl rfl rfl rfl rfl rfl ⟨rfl, rfl, rfl, rfl, rfl⟩ rfl rfl rfl rfl rfl (by kernel_rfl) Try.func3 (by kernel_rfl)
    (of_decide_eq_true (by kernel_rfl)) (by unfold Func.isWrapper; first | (rw [if_pos (by decide +kernel)]; kernel_rfl) | (rw [if_neg (by decide +kernel)]; exact ⟨rfl, rfl⟩))
    (fun os started H enc _ => lifted_FnExactPeek os started H enc)
/-- The row, for the claim. -/
theorem fnExactPeek_holds : Rows.FnExactPeekSaid := over_FnExactPeek
#print axioms fnExactPeek_holds
end Go.Proofs.Ytlgdijjkegeccaa
