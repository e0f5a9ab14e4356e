/- The parameters of type Int. -/
import Derived.Test.YtedjmclcjkcooaaLwT
import Derived.Test.YtedjmclcjkcooaaGlInt
namespace Go.Proofs.Ytedjmclcjkcooaa
open Go Go.RowKit Go.Bv
set_option linter.unusedSimpArgs false
set_option linter.unusedVariables false
theorem ty_IntS {x : AV} (h : Ty Try.prog 34 x) : ∃ f : List Int, x = .lst false 1 (f.map encInt) ∧ okIntS f := by
  obtain ⟨xs, rfl, hl, hx⟩ := ty_lst Try.underlying34 h
  obtain ⟨f, rfl, hf⟩ := list_map_of (Q := okInt) encInt xs (fun y hy => ty_Int (hx y hy))
  have hc : Try.prog.cellsOf 3 = 1 := by kernel_rfl
  exact ⟨f, by rw [hc], reach_lt (by simpa using hl), hf⟩
end Go.Proofs.Ytedjmclcjkcooaa
