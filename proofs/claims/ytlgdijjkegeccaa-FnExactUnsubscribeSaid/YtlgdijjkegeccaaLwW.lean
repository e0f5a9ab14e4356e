/- FnExactUnsubscribe returns true of every ring and number, and both read as they did. No condition. -/
import Derived.Test.YtlgdijjkegeccaaFnUz
import Derived.Test.YtlgdijjkegeccaaKY
namespace Go.Proofs.Ytlgdijjkegeccaa
open Go Go.RowKit Go.Bv
set_option linter.unusedSimpArgs false
set_option linter.unusedVariables false
theorem s_FnExactUnsubscribe {xs : List AV} (h : TyAll Try.prog [26, 3] xs) : Sound P 7 xs (.bool true) := by
  obtain ⟨x, y, rfl, hx, hy⟩ := tyAll_two h
  obtain ⟨r, rfl, hr⟩ := ty_Ring hx
  obtain ⟨id, rfl, _⟩ := ty_Int hy
  exact c_laws_FnExactUnsubscribe r id rfl hr
set_option maxRecDepth 100000 in
theorem lifted_FnExactUnsubscribe (os : Os) (started : os.Started) (H : Type) (enc : TypeId × Value → H) :
    ReturnsInHanded {} Try.checked os 7 .any (Rows.fnExactUnsubscribeSpec.pre6 enc Try.prog Try.f7 Rows.fnExactUnsubscribeRow.domain false) (Rows.fnExactUnsubscribeSpec.post enc Try.prog Try.f7 false true false false) := by
  refine law_lifted (C := Try.checked) own started (by kernel_rfl) Try.func7
    (ChangeSpec.witness6 (enc := enc) (C := Try.checked) false ⟨#[], #[.agg #[.int .i64 0, .int .i64 0, .slice none 0 0, .int .i64 0, .slice none 0 0, .slice none 0 0, .slice none 0 0, .bool false], .int .i64 0], []⟩ 8 (by kernel_rfl) (by kernel_rfl) (by kernel_rfl) (by kernel_rfl)) laidOut rfl (by kernel_rfl) (rt := 4) rfl Try.underlying4 ?_ gw ?_
  · intro ds h
    rw [Try.params7] at h
    obtain ⟨d, e, rfl⟩ := lens_two h
    exact ⟨rfl, rfl, rfl⟩
  · intro xs h
    rw [Try.params7] at h
    exact s_FnExactUnsubscribe h
theorem over_FnExactUnsubscribe : Rows.fnExactUnsubscribeRow.holds Try.pinned (OpenSpec.ofChange Rows.fnExactUnsubscribeSpec) :=
  OpenClaim.holds_of_wide 7 Try.f7 rfl rfl rfl rfl rfl rfl rfl ⟨rfl, rfl, rfl, rfl, rfl⟩ rfl rfl rfl rfl rfl (by kernel_rfl) Try.func7 (by kernel_rfl)
    (of_decide_eq_true (by kernel_rfl)) (by unfold Func.isWrapper; first | (rw [if_pos (by decide +kernel)]; kernel_rfl) | (rw [if_neg (by decide +kernel)]; exact ⟨rfl, rfl⟩))
    (fun os started H enc _ => lifted_FnExactUnsubscribe os started H enc)
/-- The row, for the claim. -/
theorem fnExactUnsubscribe_holds : Rows.FnExactUnsubscribeSaid := over_FnExactUnsubscribe
#print axioms fnExactUnsubscribe_holds
end Go.Proofs.Ytlgdijjkegeccaa
