/- FnExactSend returns true of every ring and message, and both read as they did. No condition. -/
import Derived.Test.YtlgdijjkegeccaaFnSh
import Derived.Test.YtlgdijjkegeccaaKY
namespace Go.Proofs.Ytlgdijjkegeccaa
open Go Go.RowKit Go.Bv
set_option linter.unusedSimpArgs false
set_option linter.unusedVariables false
theorem s_FnExactSend {xs : List AV} (h : TyAll Try.prog [26, 51] xs) : Sound P 6 xs (.bool true) := by
  obtain ⟨x, y, rfl, hx, hy⟩ := tyAll_two h
  obtain ⟨r, rfl, hr⟩ := ty_Ring hx
  obtain ⟨m, rfl, hm⟩ := ty_Msg hy
  exact c_laws_FnExactSend r m rfl rfl hr hm
set_option maxRecDepth 100000 in
theorem lifted_FnExactSend (os : Os) (started : os.Started) (H : Type) (enc : TypeId × Value → H) :
    ReturnsInHanded {} Try.checked os 6 .any (Rows.fnExactSendSpec.pre6 enc Try.prog Try.f6 Rows.fnExactSendRow.domain false) (Rows.fnExactSendSpec.post enc Try.prog Try.f6 false true false false) := by
  refine law_lifted (C := Try.checked) own started (by kernel_rfl) Try.func6
    (ChangeSpec.witness6 (enc := enc) (C := Try.checked) false ⟨#[], #[.agg #[.int .i64 0, .int .i64 0, .slice none 0 0, .int .i64 0, .slice none 0 0, .slice none 0 0, .slice none 0 0, .bool false], .agg #[.int .i64 0, .int .i64 0, .string ⟨#[]⟩]], []⟩ 8 (by kernel_rfl) (by kernel_rfl) (by kernel_rfl) (by kernel_rfl)) laidOut rfl (by kernel_rfl) (rt := 4) rfl Try.underlying4 ?_ gw ?_
  · intro ds h
    rw [Try.params6] at h
    obtain ⟨d, e, rfl⟩ := lens_two h
    exact ⟨rfl, rfl, rfl⟩
  · intro xs h
    rw [Try.params6] at h
    exact s_FnExactSend h
theorem over_FnExactSend : Rows.fnExactSendRow.holds Try.pinned (OpenSpec.ofChange Rows.fnExactSendSpec) :=
  OpenClaim.holds_of_wide 6 Try.f6 rfl rfl rfl rfl rfl rfl rfl ⟨rfl, rfl, rfl, rfl, rfl⟩ rfl rfl rfl rfl rfl (by kernel_rfl) Try.func6 (by kernel_rfl)
    (of_decide_eq_true (by kernel_rfl)) (by unfold Func.isWrapper; first | (rw [if_pos (by decide +kernel)]; kernel_rfl) | (rw [if_neg (by decide +kernel)]; exact ⟨rfl, rfl⟩))
    (fun os started H enc _ => lifted_FnExactSend os started H enc)
/-- The row, for the claim. -/
theorem fnExactSend_holds : Rows.FnExactSendSaid := over_FnExactSend
#print axioms fnExactSend_holds
end Go.Proofs.Ytlgdijjkegeccaa
