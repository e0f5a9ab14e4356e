/- FnExactSubscribe returns true of every ring, filter and flag, and all read as they did. No condition. -/
import Derived.Test.YtcgkejggkenecaaFnSb
import Derived.Test.YtcgkejggkenecaaLwT
import Derived.Test.YtcgkejggkenecaaGyRing
import Derived.Test.YtcgkejggkenecaaGyTerm
namespace Go.Proofs.Ytcgkejggkenecaa
open Go Go.RowKit Go.Bv
set_option linter.unusedSimpArgs false
set_option linter.unusedVariables false
theorem s_FnExactSubscribe {xs : List AV} (h : TyAll Try.prog [26, 46, 4] xs) : Sound P 7 xs (.bool true) := by
  obtain ⟨x, y, z, rfl, hx, hy, hz⟩ := tyAll_three h
  obtain ⟨r, rfl, hr⟩ := ty_Ring hx
  obtain ⟨f, rfl, hf⟩ := ty_TermS hy
  obtain ⟨b, rfl, _⟩ := ty_Bool hz
  exact c_laws_FnExactSubscribe r f b rfl hr hf
set_option maxRecDepth 100000 in
theorem lifted_FnExactSubscribe (os : Os) (started : os.Started) (H : Type) (enc : TypeId × Value → H) :
    ReturnsInHanded {} Try.checked os 7 .any (Rows.fnExactSubscribeSpec.pre6 enc Try.prog Try.f7 Rows.fnExactSubscribeRow.domain false) (Rows.fnExactSubscribeSpec.post enc Try.prog Try.f7 false true false false) := by
  refine law_lifted (C := Try.checked) own started (by kernel_rfl) Try.func7
    (ChangeSpec.witness6 (enc := enc) (C := Try.checked) false ⟨#[], #[.agg #[.int .i64 0, .int .i64 0, .slice none 0 0, .int .i64 0, .slice none 0 0, .slice none 0 0, .slice none 0 0, .bool false], .slice none 0 0, .bool false], []⟩ 8 (by kernel_rfl) (by kernel_rfl) (by kernel_rfl) (by kernel_rfl)) laidOut rfl (by kernel_rfl) (rt := 4) rfl Try.underlying4 ?_ gw ?_
  · intro ds h
    rw [Try.params7] at h
    obtain ⟨d, e, f, rfl⟩ := lens_three h
    exact ⟨rfl, rfl, rfl⟩
  · intro xs h
    rw [Try.params7] at h
    exact s_FnExactSubscribe h
theorem over_FnExactSubscribe : Rows.fnExactSubscribeRow.holds Try.pinned (OpenSpec.ofChange Rows.fnExactSubscribeSpec) :=
  OpenClaim.holds_of_wide 7 Try.f7 rfl rfl rfl rfl rfl rfl rfl ⟨rfl, rfl, rfl, rfl, rfl⟩ rfl rfl rfl rfl rfl (by kernel_rfl) Try.func7 (by kernel_rfl)
    (of_decide_eq_true (by kernel_rfl)) (by unfold Func.isWrapper; first | (rw [if_pos (by decide +kernel)]; kernel_rfl) | (rw [if_neg (by decide +kernel)]; exact ⟨rfl, rfl⟩))
    (fun os started H enc _ => lifted_FnExactSubscribe os started H enc)
/-- The row, for the claim. -/
theorem fnExactSubscribe_holds : Rows.FnExactSubscribeSaid := over_FnExactSubscribe
#print axioms fnExactSubscribe_holds
end Go.Proofs.Ytcgkejggkenecaa
