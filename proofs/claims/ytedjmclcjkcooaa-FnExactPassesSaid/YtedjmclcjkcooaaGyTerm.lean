/- The parameters of type Term. -/
import Derived.Test.YtedjmclcjkcooaaLwT
import Derived.Test.YtedjmclcjkcooaaGlTerm
namespace Go.Proofs.Ytedjmclcjkcooaa
open Go Go.RowKit Go.Bv
set_option linter.unusedSimpArgs false
set_option linter.unusedVariables false
theorem ty_Term {x : AV} (h : Ty Try.prog 63 x) : ∃ v : TermV, x = encT v ∧ okTerm v := by
  obtain ⟨xs, rfl, hl, hx⟩ := ty_agg Try.underlying63 h
  match xs, hl with
  | [x0, x1, x2], _ =>
    obtain ⟨a0, rfl, h0⟩ := ty_Int (hx 0 _ x0 rfl rfl)
    obtain ⟨a1, rfl, h1⟩ := ty_Int (hx 1 _ x1 rfl rfl)
    obtain ⟨a2, rfl, h2⟩ := ty_String (hx 2 _ x2 rfl rfl)
    exact ⟨⟨a0, a1, a2⟩, rfl, h2⟩
theorem ty_TermS {x : AV} (h : Ty Try.prog 22 x) : ∃ f : List TermV, x = .lst false 3 (f.map encT) ∧ okTermS f := by
  obtain ⟨xs, rfl, hl, hx⟩ := ty_lst Try.underlying22 h
  obtain ⟨f, rfl, hf⟩ := list_map_of (Q := okTerm) encT xs (fun y hy => ty_Term (hx y hy))
  have hc : Try.prog.cellsOf 63 = 3 := by kernel_rfl
  exact ⟨f, by rw [hc], reach_lt (by simpa using hl), hf⟩
end Go.Proofs.Ytedjmclcjkcooaa
