/- What the rows of the laws share: the program's own facts, the types of the parameters. -/
import Derived.Test.YtjmodjanaeoiiaaFnE
import Derived.Test.YtjmodjanaeoiiaaBvLa
import Derived.Test.YtjmodjanaeoiiaaRows
namespace Go.Proofs.Ytjmodjanaeoiiaa
open Go Go.RowKit Go.Bv
set_option linter.unusedSimpArgs false
set_option linter.unusedVariables false
theorem own : ownKnob Try.prog.godebug = none := by kernel_rfl
theorem laidOut : laidOutB Try.prog = true := by kernel_rfl

theorem ty_term {x : AV} (h : Ty Try.prog 87 x) : ∃ t : TermV, x = encT t ∧ t.text.size ≤ reachBytes := by
  obtain ⟨xs, rfl, hl, hx⟩ := ty_agg Try.underlying87 h
  match xs, hl with
  | [x0, x1, x2], _ =>
    obtain ⟨a, rfl, _⟩ := ty_int Try.underlying3 (hx 0 _ x0 rfl rfl)
    obtain ⟨b, rfl, _⟩ := ty_int Try.underlying3 (hx 1 _ x1 rfl rfl)
    obtain ⟨s, rfl, hs⟩ := ty_str Try.underlying9 (hx 2 _ x2 rfl rfl)
    exact ⟨⟨a, b, s⟩, rfl, hs⟩
theorem ty_terms {x : AV} (h : Ty Try.prog 22 x) : ∃ f : List TermV, x = .lst false (Try.prog.cellsOf 87) (f.map encT) ∧ f.length ≤ reachBytes ∧ ∀ t ∈ f, t.text.size ≤ reachBytes := by
  obtain ⟨xs, rfl, hl, hx⟩ := ty_lst Try.underlying22 h
  obtain ⟨f, rfl, hf⟩ := list_map_of encT xs (fun y hy => ty_term (hx y hy))
  exact ⟨f, rfl, by simpa using hl, hf⟩
theorem reach_lt {n : Nat} (h : n ≤ reachBytes) : n < 4611686018427387904 := Nat.lt_of_le_of_lt h (by decide)
end Go.Proofs.Ytjmodjanaeoiiaa
