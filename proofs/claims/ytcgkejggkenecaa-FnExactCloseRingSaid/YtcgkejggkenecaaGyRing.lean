/- The parameters of type Ring. -/
import Derived.Test.YtcgkejggkenecaaLwT
import Derived.Test.YtcgkejggkenecaaGlRing
import Derived.Test.YtcgkejggkenecaaGyMsg
import Derived.Test.YtcgkejggkenecaaGySub
import Derived.Test.YtcgkejggkenecaaGyInt
namespace Go.Proofs.Ytcgkejggkenecaa
open Go Go.RowKit Go.Bv
set_option linter.unusedSimpArgs false
set_option linter.unusedVariables false
theorem ty_Ring {x : AV} (h : Ty Try.prog 26 x) : ∃ v : RingV, x = encRing false v ∧ okRing v := by
  obtain ⟨xs, rfl, hl, hx⟩ := ty_agg Try.underlying26 h
  match xs, hl with
  | [x0, x1, x2, x3, x4, x5, x6, x7], _ =>
    obtain ⟨a0, rfl, h0⟩ := ty_Int (hx 0 _ x0 rfl rfl)
    obtain ⟨a1, rfl, h1⟩ := ty_Int (hx 1 _ x1 rfl rfl)
    obtain ⟨a2, rfl, h2⟩ := ty_MsgS (hx 2 _ x2 rfl rfl)
    obtain ⟨a3, rfl, h3⟩ := ty_Int (hx 3 _ x3 rfl rfl)
    obtain ⟨a4, rfl, h4⟩ := ty_SubS (hx 4 _ x4 rfl rfl)
    obtain ⟨a5, rfl, h5⟩ := ty_IntS (hx 5 _ x5 rfl rfl)
    obtain ⟨a6, rfl, h6⟩ := ty_IntS (hx 6 _ x6 rfl rfl)
    obtain ⟨a7, rfl, h7⟩ := ty_Bool (hx 7 _ x7 rfl rfl)
    exact ⟨⟨a0, a1, a2, a3, a4, a5, a6, a7⟩, rfl, ⟨h2, h4, h5, h6⟩⟩
end Go.Proofs.Ytcgkejggkenecaa
