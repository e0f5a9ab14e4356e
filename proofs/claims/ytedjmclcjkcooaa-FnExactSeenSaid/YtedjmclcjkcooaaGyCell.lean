/- The parameters of type Cell. -/
import Derived.Test.YtedjmclcjkcooaaLwT
import Derived.Test.YtedjmclcjkcooaaGlCell
import Derived.Test.YtedjmclcjkcooaaGyMsg
import Derived.Test.YtedjmclcjkcooaaGyInt
namespace Go.Proofs.Ytedjmclcjkcooaa
open Go Go.RowKit Go.Bv
set_option linter.unusedSimpArgs false
set_option linter.unusedVariables false
theorem ty_Cell {x : AV} (h : Ty Try.prog 36 x) : ∃ v : CellV, x = encCell false v ∧ okCell v := by
  obtain ⟨xs, rfl, hl, hx⟩ := ty_agg Try.underlying36 h
  match xs, hl with
  | [x0, x1, x2, x3, x4], _ =>
    obtain ⟨a0, rfl, h0⟩ := ty_Msg (hx 0 _ x0 rfl rfl)
    obtain ⟨a1, rfl, h1⟩ := ty_Int (hx 1 _ x1 rfl rfl)
    obtain ⟨a2, rfl, h2⟩ := ty_Bool (hx 2 _ x2 rfl rfl)
    obtain ⟨a3, rfl, h3⟩ := ty_IntS (hx 3 _ x3 rfl rfl)
    obtain ⟨a4, rfl, h4⟩ := ty_IntS (hx 4 _ x4 rfl rfl)
    exact ⟨⟨a0, a1, a2, a3, a4⟩, rfl, ⟨h0, h3, h4⟩⟩
end Go.Proofs.Ytedjmclcjkcooaa
