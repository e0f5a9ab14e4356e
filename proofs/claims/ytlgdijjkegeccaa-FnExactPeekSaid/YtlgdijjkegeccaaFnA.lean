/- Contracts: small functions of the filter. -/
import Derived.Test.YtlgdijjkegeccaaFnV
namespace Go.Proofs.Ytlgdijjkegeccaa
open Go Go.RowKit Go.Bv
set_option linter.unusedSimpArgs false
set_option linter.unusedVariables false
set_option maxRecDepth 4000
theorem c_spec_l1In (x a b : Int) : Sound P 83 [.int .i64 x, .int .i64 a, .int .i64 b] (.bool (decide (x ≥ a) && decide (x ≤ b))) := by
  refine snd_b hT Try.func83 Try.results83 Try.ntmps83 ?_
  repeat' (first | refine one ?_ | (refine two ?_ ?_; all_goals (intro h; try simp only [Bool.not_eq_true', Bool.not_eq_false', reduceCtorEq] at h)) | fail)
  all_goals ((simp only [go_sem, *]); first | done | simp [*])
noncomputable abbrev ic_spec_l1In := Con.mk (P := P) (f := 83) Try.call83 @c_spec_l1In
attribute [instance] ic_spec_l1In
theorem c_impl_within (x a b : Int) : Sound P 86 [.int .i64 x, .int .i64 a, .int .i64 b] (.bool (decide (x ≥ a) && decide (x ≤ b))) := by
  refine snd_b hT Try.func86 Try.results86 Try.ntmps86 ?_
  repeat' (first | refine one ?_ | (refine two ?_ ?_; all_goals (intro h; try simp only [Bool.not_eq_true', Bool.not_eq_false', reduceCtorEq] at h)) | fail)
  all_goals ((simp only [go_sem, *]); first | done | simp [*])

noncomputable abbrev ic_impl_within := Con.mk (P := P) (f := 86) Try.call86 @c_impl_within
attribute [instance] ic_impl_within
/-- How many a term takes from the stack. -/
def takesI (o : Int) : Int := if o = 8 then 1 else if o = 9 ∨ o = 10 then 2 else 0
theorem c_impl_takes (o n : Int) (s : ByteArray) : Sound P 145 [.agg [.int .i64 o, .int .i64 n, .str s]] (.int .i64 (takesI o)) := by
  refine snd_b hT Try.func145 Try.results145 Try.ntmps145 ?_
  repeat' (first | refine one ?_ | (refine two ?_ ?_; all_goals (intro h; try simp only [Bool.not_eq_true', Bool.not_eq_false', reduceCtorEq] at h)) | fail)
  all_goals ((simp only [go_sem, *]); first | done | simp_all [takesI])
noncomputable abbrev ic_impl_takes := Con.mk (P := P) (f := 145) Try.call145 @c_impl_takes
attribute [instance] ic_impl_takes
end Go.Proofs.Ytlgdijjkegeccaa
