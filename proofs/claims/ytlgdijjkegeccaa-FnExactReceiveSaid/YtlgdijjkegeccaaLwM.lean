/- FnExactReceive returns true of every ring and number, and both read as they did. No condition. -/
import Derived.Test.YtlgdijjkegeccaaFnRx
import Derived.Test.YtlgdijjkegeccaaKY
namespace Go.Proofs.Ytlgdijjkegeccaa
open Go Go.RowKit Go.Bv
set_option linter.unusedSimpArgs false
set_option linter.unusedVariables false
theorem s_FnExactReceive {xs : List AV} (h : TyAll Try.prog [26, 3] xs) : Sound P 4 xs (.bool true) := by
  obtain ⟨x, y, rfl, hx, hy⟩ := tyAll_two h
  obtain ⟨r, rfl, hr⟩ := ty_Ring hx
  obtain ⟨id, rfl, _⟩ := ty_Int hy
  exact c_laws_FnExactReceive r id rfl hr
set_option maxRecDepth 100000 in
theorem lifted_FnExactReceive (os : Os) (started : os.Started) (H : Type) (enc : TypeId × Value → H) :
    ReturnsInHanded {} Try.checked os 4 .any (Rows.fnExactReceiveSpec.pre6 enc Try.prog Try.f4 Rows.fnExactReceiveRow.domain false) (Rows.fnExactReceiveSpec.post enc Try.prog Try.f4 false true false false) := by
  refine law_lifted (C := Try.checked) own started (by kernel_rfl) Try.func4
    (ChangeSpec.witness6 (enc := enc) (C := Try.checked) false ⟨#[], #[.agg #[.int .i64 0, .int .i64 0, .slice none 0 0, .int .i64 0, .slice none 0 0, .slice none 0 0, .slice none 0 0, .bool false], .int .i64 0], []⟩ 8 (by kernel_rfl) (by kernel_rfl) (by kernel_rfl) (by kernel_rfl)) laidOut rfl (by kernel_rfl) (rt := 4) rfl Try.underlying4 ?_ gw ?_
  · intro ds h
    rw [Try.params4] at h
    obtain ⟨d, e, rfl⟩ := lens_two h
    exact ⟨rfl, rfl, rfl⟩
  · intro xs h
    rw [Try.params4] at h
    exact s_FnExactReceive h
theorem over_FnExactReceive : Rows.fnExactReceiveRow.holds Try.pinned (OpenSpec.ofChange Rows.fnExactReceiveSpec) :=
  OpenClaim.holds_of_wide 4 Try.f4 rfl rfl rfl rfl rfl rfl rfl ⟨rfl, rfl, rfl, rfl, rfl⟩ rfl rfl rfl rfl rfl (by kernel_rfl) Try.func4 (by kernel_rfl)
    (of_decide_eq_true (by kernel_rfl)) (by unfold Func.isWrapper; first | (rw [if_pos (by decide +kernel)]; kernel_rfl) | (rw [if_neg (by decide +kernel)]; exact ⟨rfl, rfl⟩))
    (fun os started H enc _ => lifted_FnExactReceive os started H enc)
/-- The row, for the claim. -/
theorem fnExactReceive_holds : Rows.FnExactReceiveSaid := over_FnExactReceive
#print axioms fnExactReceive_holds
end Go.Proofs.Ytlgdijjkegeccaa
