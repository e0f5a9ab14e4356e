/- Contracts: small functions of the filter. -/
import Derived.Test.YtedjmclcjkcooaaFnV
namespace Go.Proofs.Ytedjmclcjkcooaa
open Go Go.RowKit Go.Bv
set_option linter.unusedSimpArgs false
set_option linter.unusedVariables false
theorem c_spec_l1In (x a b : Int) : Sound P 63 [.int .i64 x, .int .i64 a, .int .i64 b] (.bool (decide (x ≥ a) && decide (x ≤ b))) := by
  refine sound_body hT Try.func63 rfl ?_
  rw [Try.results63, Try.ntmps63]
  simp only [frame, List.length_cons, List.length_nil, List.replicate, List.cons_append, List.nil_append, Nat.reduceAdd, Nat.reduceSub]
  repeat' (first
  | with_reducible refine aw_seq ?_
  | with_reducible first | refine aw_ret ?_ | refine thenA_n ?_ | refine ends_r ?_ | refine aw_reg ?_
  | with_reducible refine al_nil ?_
  | (with_reducible apply al_s hT true
     · first | exact gchk_none rfl | simp only [go_sem, *]
     · simp only [go_sem, *]; first | done | with_reducible rfl)
  | (with_reducible apply al_skip
     · simp only [go_sem, *]
     · simp only [go_sem]; with_reducible rfl)
  | ((with_reducible first | apply al_caseT rfl | apply al_caseF rfl)
     · simp only [go_sem, *]; with_reducible rfl
     · simp only [go_sem]; with_reducible rfl
     all_goals (intro h; try simp only [Bool.not_eq_true', Bool.not_eq_false'] at h)
     fail_if_success (with_reducible have hh : (true = true ∨ false = false) := by first | exact Or.inl h | exact Or.inr h))
  )
  all_goals ((simp only [go_sem, *]); first | done | simp [*])
theorem c_impl_within (x a b : Int) : Sound P 68 [.int .i64 x, .int .i64 a, .int .i64 b] (.bool (decide (x ≥ a) && decide (x ≤ b))) := by
  refine sound_body hT Try.func68 rfl ?_
  rw [Try.results68, Try.ntmps68]
  simp only [frame, List.length_cons, List.length_nil, List.replicate, List.cons_append, List.nil_append, Nat.reduceAdd, Nat.reduceSub]
  repeat' (first
  | with_reducible refine aw_seq ?_
  | with_reducible first | refine aw_ret ?_ | refine thenA_n ?_ | refine ends_r ?_ | refine aw_reg ?_
  | with_reducible refine al_nil ?_
  | (with_reducible apply al_s hT true
     · first | exact gchk_none rfl | simp only [go_sem, *]
     · simp only [go_sem, *]; first | done | with_reducible rfl)
  | (with_reducible apply al_skip
     · simp only [go_sem, *]
     · simp only [go_sem]; with_reducible rfl)
  | ((with_reducible first | apply al_caseT rfl | apply al_caseF rfl)
     · simp only [go_sem, *]; with_reducible rfl
     · simp only [go_sem]; with_reducible rfl
     all_goals (intro h; try simp only [Bool.not_eq_true', Bool.not_eq_false'] at h)
     fail_if_success (with_reducible have hh : (true = true ∨ false = false) := by first | exact Or.inl h | exact Or.inr h))
  )
  all_goals ((simp only [go_sem, *]); first | done | simp [*])

/-- How many a term takes from the stack. -/
def takesI (o : Int) : Int := if o = 8 then 1 else if o = 9 ∨ o = 10 then 2 else 0
theorem c_impl_takes (o n : Int) (s : ByteArray) : Sound P 67 [.agg [.int .i64 o, .int .i64 n, .str s]] (.int .i64 (takesI o)) := by
  refine sound_body hT Try.func67 rfl ?_
  rw [Try.results67, Try.ntmps67]
  simp only [frame, List.length_cons, List.length_nil, List.replicate, List.cons_append, List.nil_append, Nat.reduceAdd, Nat.reduceSub]
  repeat' (first
  | with_reducible first | refine aw_seq ?_ | refine aw_block ?_ | refine aw_skip ?_
  | with_reducible first | refine aw_ret ?_ | refine thenA_n ?_ | refine thenA_r ?_ | refine blockA_n ?_ | refine blockA_r ?_ | refine ends_r ?_ | refine aw_reg ?_
  | with_reducible refine al_nil ?_
  | (with_reducible apply aw_cond
     · simp only [go_sem, *]; with_reducible rfl
     all_goals (intro h; try simp only [Bool.not_eq_true', Bool.not_eq_false', reduceCtorEq] at h))
  | (with_reducible apply al_s hT true
     · first | exact gchk_none rfl | simp only [go_sem, *]
     · simp only [go_sem, *]; first | done | with_reducible rfl)
  )
  all_goals ((simp only [go_sem, *]); first | done | simp_all [takesI])
end Go.Proofs.Ytedjmclcjkcooaa
