/- FnExactUpdate returns true of every cell and change, and both read as they did. No condition. -/
import Derived.Test.YtbeijohahflkeaaFnUt
import Derived.Test.YtbeijohahflkeaaKY
namespace Go.Proofs.Ytbeijohahflkeaa
open Go Go.RowKit Go.Bv
set_option linter.unusedSimpArgs false
set_option linter.unusedVariables false
theorem s_FnExactUpdate {xs : List AV} (h : TyAll Try.prog [26, 28] xs) : Sound P 3 xs (.bool true) := by
  obtain ⟨x, y, rfl, hx, hy⟩ := tyAll_two h
  obtain ⟨c, rfl, hc⟩ := ty_Cell hx
  obtain ⟨d, rfl, hd⟩ := ty_Change hy
  exact c_laws_FnExactUpdate c d rfl rfl hc hd
set_option maxRecDepth 100000 in
theorem lifted_FnExactUpdate (os : Os) (started : os.Started) (H : Type) (enc : TypeId × Value → H) :
    ReturnsInHanded {} Try.checked os 3 .any (Rows.fnExactUpdateSpec.pre6 enc Try.prog Try.f3 Rows.fnExactUpdateRow.domain false) (Rows.fnExactUpdateSpec.post enc Try.prog Try.f3 false true false false) := by
  refine law_lifted (C := Try.checked) own started (by kernel_rfl) Try.func3
    (ChangeSpec.witness6 (enc := enc) (C := Try.checked) false ⟨#[], #[.agg #[.int .i64 0, .int .i64 0, .string ⟨#[]⟩, .int .i64 0, .bool false, .slice none 0 0, .slice none 0 0], .agg #[.int .i64 0, .int .i64 0, .int .i64 0, .string ⟨#[]⟩]], []⟩ 8 (by kernel_rfl) (by kernel_rfl) (by kernel_rfl) (by kernel_rfl)) laidOut rfl (by kernel_rfl) (rt := 4) rfl Try.underlying4 ?_ gw ?_
  · intro ds h
    rw [Try.params3] at h
    obtain ⟨d, e, rfl⟩ := lens_two h
    exact ⟨rfl, rfl, rfl⟩
  · intro xs h
    rw [Try.params3] at h
    exact s_FnExactUpdate h
theorem over_FnExactUpdate : Rows.fnExactUpdateRow.holds Try.pinned (OpenSpec.ofChange Rows.fnExactUpdateSpec) :=
  OpenClaim.holds_of_wide 3 Try.f3 rfl rfl rfl rfl rfl rfl rfl ⟨rfl, rfl, rfl, rfl, rfl⟩ rfl rfl rfl rfl rfl (by kernel_rfl) Try.func3 (by kernel_rfl)
    (of_decide_eq_true (by kernel_rfl)) (by unfold Func.isWrapper; first | (rw [if_pos (by decide +kernel)]; kernel_rfl) | (rw [if_neg (by decide +kernel)]; exact ⟨rfl, rfl⟩))
    (fun os started H enc _ => lifted_FnExactUpdate os started H enc)
/-- The row, for the claim. -/
theorem fnExactUpdate_holds : Rows.FnExactUpdateSaid := over_FnExactUpdate
#print axioms fnExactUpdate_holds
end Go.Proofs.Ytbeijohahflkeaa
