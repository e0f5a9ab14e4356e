/- FnExactOther returns true of every filter, and the filter reads as it did. No condition. -/
import Derived.Test.YtjmodjanaeoiiaaFnJ
import Derived.Test.YtjmodjanaeoiiaaBvLa
import Derived.Test.YtjmodjanaeoiiaaRows
namespace Go.Proofs.Ytjmodjanaeoiiaa
open Go Go.RowKit Go.Bv
set_option linter.unusedSimpArgs false
set_option linter.unusedVariables false
set_option linter.unusedVariables false
theorem own : ownKnob Try.prog.godebug = none := by kernel_rfl
theorem laidOut : laidOutB Try.prog = true := by kernel_rfl

theorem ty_term {x : AV} (h : Ty Try.prog 87 x) : ∃ t : TermV, x = encT t ∧ t.text.size ≤ reachBytes := by
  obtain ⟨xs, rfl, hl, hx⟩ := ty_agg Try.underlying87 h
  match xs, hl with
  | [x0, x1, x2], _ =>
    obtain ⟨a, rfl, _⟩ := ty_int Try.underlying3 (hx 0 _ x0 rfl rfl)
    obtain ⟨b, rfl, _⟩ := ty_int Try.underlying3 (hx 1 _ x1 rfl rfl)
    obtain ⟨s, rfl, hs⟩ := ty_str Try.underlying9 (hx 2 _ x2 rfl rfl)
    exact ⟨⟨a, b, s⟩, rfl, hs⟩
theorem ty_terms {x : AV} (h : Ty Try.prog 22 x) : ∃ f : List TermV, x = .lst false (Try.prog.cellsOf 87) (f.map encT) ∧ f.length ≤ reachBytes ∧ ∀ t ∈ f, t.text.size ≤ reachBytes := by
  obtain ⟨xs, rfl, hl, hx⟩ := ty_lst Try.underlying22 h
  obtain ⟨f, rfl, hf⟩ := list_map_of encT xs (fun y hy => ty_term (hx y hy))
  exact ⟨f, rfl, by simpa using hl, hf⟩

set_option maxRecDepth 100000 in
theorem lifted_Other (os : Os) (started : os.Started) (H : Type) (enc : TypeId × Value → H) :
    ReturnsInHanded {} Try.checked os 4 .any (Rows.fnExactOtherSpec.pre6 enc Try.prog Try.f4 Rows.fnExactOtherRow.domain false) (Rows.fnExactOtherSpec.post enc Try.prog Try.f4 false true false false) := by
  refine law_lifted (C := Try.checked) own started (by kernel_rfl) Try.func4
    (ChangeSpec.witness6 (enc := enc) (C := Try.checked) false ⟨#[], #[.slice none 0 0], []⟩ 8 (by kernel_rfl) (by kernel_rfl) (by kernel_rfl) (by kernel_rfl)) laidOut rfl (by kernel_rfl) (rt := 4) rfl Try.underlying4 ?_ ?_
  · intro ds h
    rw [Try.params4] at h
    obtain ⟨d, rfl⟩ := lens_one h
    exact ⟨rfl, rfl, rfl⟩
  · intro xs h
    rw [Try.params4] at h
    obtain ⟨x, rfl, hx⟩ := tyAll_one h
    obtain ⟨f, rfl, hl, hs⟩ := ty_terms hx
    have hm : reachBytes < 4611686018427387904 := by decide
    exact c_laws_FnExactOther f (by omega) (fun t ht => Nat.lt_of_le_of_lt (hs t ht) hm)
theorem over_Other : Rows.fnExactOtherRow.holds Try.pinned (OpenSpec.ofChange Rows.fnExactOtherSpec) :=
  OpenClaim.holds_of_wide 4 Try.f4 rfl rfl rfl rfl rfl rfl rfl ⟨rfl, rfl, rfl, rfl, rfl⟩ rfl rfl rfl rfl rfl (by kernel_rfl) Try.func4 (by kernel_rfl)
    (of_decide_eq_true (by kernel_rfl)) (by unfold Func.isWrapper; first | (rw [if_pos (by decide +kernel)]; kernel_rfl) | (rw [if_neg (by decide +kernel)]; exact ⟨rfl, rfl⟩))
    (fun os started H enc _ => lifted_Other os started H enc)
/-- The row, for the claim. -/
theorem fnExactOther_holds : Rows.FnExactOtherSaid := over_Other
#print axioms fnExactOther_holds
end Go.Proofs.Ytjmodjanaeoiiaa
