/- The parameters of type Sub. -/
import Derived.Test.YtcgkejggkenecaaLwT
import Derived.Test.YtcgkejggkenecaaGlSub
import Derived.Test.YtcgkejggkenecaaGyTerm
namespace Go.Proofs.Ytcgkejggkenecaa
open Go Go.RowKit Go.Bv
set_option linter.unusedSimpArgs false
set_option linter.unusedVariables false
theorem ty_Sub {x : AV} (h : Ty Try.prog 116 x) : ∃ v : SubV, x = encSub false v ∧ okSub v := by
  obtain ⟨xs, rfl, hl, hx⟩ := ty_agg Try.underlying116 h
  match xs, hl with
  | [x0, x1, x2, x3, x4, x5, x6], _ =>
    obtain ⟨a0, rfl, h0⟩ := ty_Int (hx 0 _ x0 rfl rfl)
    obtain ⟨a1, rfl, h1⟩ := ty_Int (hx 1 _ x1 rfl rfl)
    obtain ⟨a2, rfl, h2⟩ := ty_Int (hx 2 _ x2 rfl rfl)
    obtain ⟨a3, rfl, h3⟩ := ty_Int (hx 3 _ x3 rfl rfl)
    obtain ⟨a4, rfl, h4⟩ := ty_Int (hx 4 _ x4 rfl rfl)
    obtain ⟨a5, rfl, h5⟩ := ty_Int (hx 5 _ x5 rfl rfl)
    obtain ⟨a6, rfl, h6⟩ := ty_TermS (hx 6 _ x6 rfl rfl)
    exact ⟨⟨a0, a1, a2, a3, a4, a5, a6⟩, rfl, h6⟩
theorem ty_SubS {x : AV} (h : Ty Try.prog 23 x) : ∃ f : List SubV, x = .lst false 7 (f.map (encSub false)) ∧ okSubS f := by
  obtain ⟨xs, rfl, hl, hx⟩ := ty_lst Try.underlying23 h
  obtain ⟨f, rfl, hf⟩ := list_map_of (Q := okSub) (encSub false) xs (fun y hy => ty_Sub (hx y hy))
  have hc : Try.prog.cellsOf 116 = 7 := by kernel_rfl
  exact ⟨f, by rw [hc], reach_lt (by simpa using hl), hf⟩
end Go.Proofs.Ytcgkejggkenecaa
