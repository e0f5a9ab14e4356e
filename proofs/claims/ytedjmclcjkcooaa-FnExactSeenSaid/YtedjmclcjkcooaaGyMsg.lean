/- The parameters of type Msg. -/
import Derived.Test.YtedjmclcjkcooaaLwT
import Derived.Test.YtedjmclcjkcooaaGlMsg
namespace Go.Proofs.Ytedjmclcjkcooaa
open Go Go.RowKit Go.Bv
set_option linter.unusedSimpArgs false
set_option linter.unusedVariables false
theorem ty_Msg {x : AV} (h : Ty Try.prog 24 x) : ∃ v : MsgV, x = encMsg false v ∧ okMsg v := by
  obtain ⟨xs, rfl, hl, hx⟩ := ty_agg Try.underlying24 h
  match xs, hl with
  | [x0, x1, x2], _ =>
    obtain ⟨a0, rfl, h0⟩ := ty_Int (hx 0 _ x0 rfl rfl)
    obtain ⟨a1, rfl, h1⟩ := ty_Int (hx 1 _ x1 rfl rfl)
    obtain ⟨a2, rfl, h2⟩ := ty_String (hx 2 _ x2 rfl rfl)
    exact ⟨⟨a0, a1, a2⟩, rfl, h2⟩
end Go.Proofs.Ytedjmclcjkcooaa
