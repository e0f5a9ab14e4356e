/- Contracts of the slices package at lists of impl.Term. -/
import Derived.Test.YtlgdijjkegeccaaFnW
import Derived.Test.YtlgdijjkegeccaaGlTerm
namespace Go.Proofs.Ytlgdijjkegeccaa
open Go Go.RowKit Go.Bv
set_option linter.unusedSimpArgs false
set_option linter.unusedVariables false
set_option maxRecDepth 4000
set_option maxHeartbeats 1000000
theorem c_slices_Clone_impl_Term_impl_Term (f : List TermV) (hf : f.length ≤ 4194304) : Sound P 113 [.lst false 3 (f.map encT)] (.lst true 3 (f.map encT)) := by
  refine snd_b hT Try.func113 Try.results113 Try.ntmps113 ?_
  repeat' (first
  | (with_reducible apply al_isnil hT
     · exact gchk_none rfl
     · rfl
     · simp only [go_sem]; first | done | with_reducible rfl
     · simp only [go_sem, *]; with_reducible rfl
     · simp only [go_sem, *]; with_reducible rfl
     intro b hb
     with_reducible apply al_cast
     · simp only [go_sem]; with_reducible rfl)
  | refine oneF ?_ | (refine two ?_ ?_; all_goals (intro h; try simp only [Bool.not_eq_true', Bool.not_eq_false', reduceCtorEq] at h)) | fail)
  · have hf0 : f = [] := by
      have : f.length = 0 := by
        by_cases h0 : f.length = 0
        · exact h0
        · have := hb h0; rw [h] at this; cases this
      exact List.eq_nil_of_length_eq_zero this
    subst hf0
    (simp only [go_sem, *])
    first | done | rfl
  · (simp only [go_sem, *])
noncomputable abbrev ic_slices_Clone_impl_Term_impl_Term := Con.mk (P := P) (f := 113) Try.call113 @c_slices_Clone_impl_Term_impl_Term
attribute [instance] ic_slices_Clone_impl_Term_impl_Term
end Go.Proofs.Ytlgdijjkegeccaa
