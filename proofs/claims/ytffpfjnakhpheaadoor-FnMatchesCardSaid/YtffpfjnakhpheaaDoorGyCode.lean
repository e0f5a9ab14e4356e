/- A parameter that is a draw's code. -/
import Derived.Test.YtffpfjnakhpheaaDoorLwT
import Derived.Test.YtffpfjnakhpheaaDoorFnDa
namespace Go.Proofs.YtffpfjnakhpheaaDoor
open Go Go.RowKit Go.Bv
set_option linter.unusedSimpArgs false
set_option linter.unusedVariables false
set_option maxRecDepth 4000
theorem ty_U8 {x : AV} (h : Ty Tryd.prog 5 x) : ∃ v : Int, x = encU8 v ∧ (0 ≤ v ∧ v ≤ 255) := by
  obtain ⟨a, rfl, hw⟩ := ty_int Tryd.underlying5 h
  refine ⟨a, rfl, ?_⟩
  have h1 : IntKind.u8.min = 0 := by rfl
  have h2 : IntKind.u8.max = 255 := by rfl
  simp only [Lit.wf, h1, h2, Bool.and_eq_true, decide_eq_true_eq] at hw
  exact hw
theorem ty_Code {x : AV} (h : Ty Tryd.prog 22 x) : ∃ f : List Int, x = .lst false 1 (f.map encU8) ∧ f.length < 4611686018427387904 ∧ ∀ y ∈ f, 0 ≤ y ∧ y ≤ 255 := by
  obtain ⟨xs, rfl, hl, hx⟩ := ty_lst Tryd.underlying22 h
  obtain ⟨f, rfl, hf⟩ := list_map_of (Q := fun v : Int => 0 ≤ v ∧ v ≤ 255) encU8 xs (fun y hy => ty_U8 (hx y hy))
  have hc : Tryd.prog.cellsOf 5 = 1 := by kernel_rfl
  exact ⟨f, by rw [hc], reach_lt (by simpa using hl), hf⟩
end Go.Proofs.YtffpfjnakhpheaaDoor
