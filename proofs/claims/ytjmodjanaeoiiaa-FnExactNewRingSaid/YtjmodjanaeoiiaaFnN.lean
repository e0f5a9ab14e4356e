/- Contracts: a new ring; the law. -/
import Derived.Test.YtjmodjanaeoiiaaFnA
import Derived.Test.YtjmodjanaeoiiaaGlRing
namespace Go.Proofs.Ytjmodjanaeoiiaa
open Go Go.RowKit Go.Bv
set_option linter.unusedSimpArgs false
set_option linter.unusedVariables false
set_option maxRecDepth 4000
set_option maxHeartbeats 1000000

def newRing (c : Int) : RingV := if c ≥ 1 ∧ c ≤ 16 then ⟨c, 0, [], 0, [], [], [], false⟩ else ⟨0, 0, [], 0, [], [], [], false⟩
def newRingC (c : Int) : Int := if c ≥ 1 ∧ c ≤ 16 then 0 else 1
theorem c_spec_NewRing (c : Int) : Sound P 22 [.int .i64 c] (.tup [encRing true (newRing c), .int .i64 (newRingC c)]) := by
  refine sound_body hT Go.Proofs.Try.func22 rfl ?_
  rw [Go.Proofs.Try.results22, Go.Proofs.Try.ntmps22]
  simp only [frame, List.length_cons, List.length_nil, List.replicate, List.cons_append, List.nil_append, Nat.reduceAdd, Nat.reduceSub]
  repeat' (first
  | with_reducible first | refine aw_seq ?_ | refine aw_block ?_ | refine aw_skip ?_ | refine aw_exit ?_
  | with_reducible first | refine aw_ret ?_ | refine thenA_n ?_ | refine thenA_r ?_ | refine thenA_x ?_ | refine blockA_n ?_ | refine blockA_r ?_ | refine blockA_e ?_ | refine blockA_x (by decide) ?_ | refine ends_r ?_ | refine ends_n ?_ | refine ends_rM ?_ | refine ends_nM ?_ | refine aw_reg ?_
  | (with_reducible refine aw_any hT ?_ ?_; · decide +kernel)
  | with_reducible refine al_nil ?_
  | (with_reducible apply aw_cond
     · simp only [go_sem, *]; with_reducible rfl
     all_goals (intro h; try simp only [Bool.not_eq_true', Bool.not_eq_false', reduceCtorEq] at h))
  | (with_reducible apply al_call (f := 61)
     · first | exact gchk_none rfl | simp only [go_sem, *]
     · rfl
     · exact Go.Proofs.Try.call61
     · simp only [go_sem, *]; with_reducible rfl
     · simp only [go_sem, *]
     · (with_reducible apply c_spec_l1In) <;> first | assumption | rfl
     · simp only [go_sem]; with_reducible rfl)
  | (with_reducible apply al_snap (f := 61)
     · first | exact gchk_none rfl | simp only [go_sem, *]
     · rfl
     · exact Go.Proofs.Try.call61
     · simp only [go_sem, *]; with_reducible rfl
     · simp only [go_sem, *]; with_reducible rfl
     · (with_reducible apply c_spec_l1In) <;> first | assumption | rfl
     · simp only [go_sem, *]
     · simp only [go_sem]; with_reducible rfl)
  | (with_reducible apply al_build hT
     · exact gchk_none rfl
     · rfl
     · simp only [go_sem]; first | done | with_reducible rfl
     · simp only [go_sem]; first | done | with_reducible rfl
     · simp only [go_sem, bldOk, List.sum_cons, List.sum_nil]; first | done | decide
     · simp only [go_sem, *]; with_reducible rfl
     · simp only [go_sem, *]; with_reducible rfl
     · simp only [go_sem]
     · simp only [go_sem]; with_reducible rfl)
  | (with_reducible apply al_s hT true
     · first | exact gchk_none rfl | simp only [go_sem, *]
     · simp only [go_sem, *]; first | done | with_reducible rfl)
  | (with_reducible apply al_q hT
     · first | exact gchk_none rfl | simp only [go_sem, *]
     · simp only [go_sem, *]; first | done | with_reducible rfl
     · simp only [go_sem]; with_reducible rfl)
  | (with_reducible apply al_skip
     · simp only [go_sem, *]
     · simp only [go_sem]; with_reducible rfl)
  | ((with_reducible first | apply al_caseT rfl | apply al_caseF rfl)
     · simp only [go_sem, *]; with_reducible rfl
     · simp only [go_sem]; with_reducible rfl
     all_goals (intro h; try simp only [Bool.not_eq_true', Bool.not_eq_false'] at h)
     fail_if_success (with_reducible have hh : (true = true ∨ false = false) := by first | exact Or.inl h | exact Or.inr h))
  )
  all_goals (
    (simp only [go_sem, *])
    by_cases hc : c ≥ 1 ∧ c ≤ 16
    · simp only [newRing, newRingC, if_pos hc, encRing]; simp_all
    · simp only [newRing, newRingC, if_neg hc, encRing]; simp_all <;> omega)
theorem c_impl_NewRing (c : Int) : Sound P 23 [.int .i64 c] (.tup [encRing true (newRing c), .int .i64 (newRingC c)]) := by
  refine sound_body hT Go.Proofs.Try.func23 rfl ?_
  rw [Go.Proofs.Try.results23, Go.Proofs.Try.ntmps23]
  simp only [frame, List.length_cons, List.length_nil, List.replicate, List.cons_append, List.nil_append, Nat.reduceAdd, Nat.reduceSub]
  repeat' (first
  | with_reducible first | refine aw_seq ?_ | refine aw_block ?_ | refine aw_skip ?_ | refine aw_exit ?_
  | with_reducible first | refine aw_ret ?_ | refine thenA_n ?_ | refine thenA_r ?_ | refine thenA_x ?_ | refine blockA_n ?_ | refine blockA_r ?_ | refine blockA_e ?_ | refine blockA_x (by decide) ?_ | refine ends_r ?_ | refine ends_n ?_ | refine ends_rM ?_ | refine ends_nM ?_ | refine aw_reg ?_
  | (with_reducible refine aw_any hT ?_ ?_; · decide +kernel)
  | with_reducible refine al_nil ?_
  | (with_reducible apply aw_cond
     · simp only [go_sem, *]; with_reducible rfl
     all_goals (intro h; try simp only [Bool.not_eq_true', Bool.not_eq_false', reduceCtorEq] at h))
  | (with_reducible apply al_call (f := 62)
     · first | exact gchk_none rfl | simp only [go_sem, *]
     · rfl
     · exact Go.Proofs.Try.call62
     · simp only [go_sem, *]; with_reducible rfl
     · simp only [go_sem, *]
     · (with_reducible apply c_impl_within) <;> first | assumption | rfl
     · simp only [go_sem]; with_reducible rfl)
  | (with_reducible apply al_snap (f := 62)
     · first | exact gchk_none rfl | simp only [go_sem, *]
     · rfl
     · exact Go.Proofs.Try.call62
     · simp only [go_sem, *]; with_reducible rfl
     · simp only [go_sem, *]; with_reducible rfl
     · (with_reducible apply c_impl_within) <;> first | assumption | rfl
     · simp only [go_sem, *]
     · simp only [go_sem]; with_reducible rfl)
  | (with_reducible apply al_build hT
     · exact gchk_none rfl
     · rfl
     · simp only [go_sem]; first | done | with_reducible rfl
     · simp only [go_sem]; first | done | with_reducible rfl
     · simp only [go_sem, bldOk, List.sum_cons, List.sum_nil]; first | done | decide
     · simp only [go_sem, *]; with_reducible rfl
     · simp only [go_sem, *]; with_reducible rfl
     · simp only [go_sem]
     · simp only [go_sem]; with_reducible rfl)
  | (with_reducible apply al_s hT true
     · first | exact gchk_none rfl | simp only [go_sem, *]
     · simp only [go_sem, *]; first | done | with_reducible rfl)
  | (with_reducible apply al_q hT
     · first | exact gchk_none rfl | simp only [go_sem, *]
     · simp only [go_sem, *]; first | done | with_reducible rfl
     · simp only [go_sem]; with_reducible rfl)
  | (with_reducible apply al_skip
     · simp only [go_sem, *]
     · simp only [go_sem]; with_reducible rfl)
  | ((with_reducible first | apply al_caseT rfl | apply al_caseF rfl)
     · simp only [go_sem, *]; with_reducible rfl
     · simp only [go_sem]; with_reducible rfl
     all_goals (intro h; try simp only [Bool.not_eq_true', Bool.not_eq_false'] at h)
     fail_if_success (with_reducible have hh : (true = true ∨ false = false) := by first | exact Or.inl h | exact Or.inr h))
  )
  all_goals (
    (simp only [go_sem, *])
    by_cases hc : c ≥ 1 ∧ c ≤ 16
    · simp only [newRing, newRingC, if_pos hc, encRing]; simp_all
    · simp only [newRing, newRingC, if_neg hc, encRing]; simp_all <;> omega)
theorem newRing_w (c : Int) : wRing (newRing c) = 0 := by
  unfold newRing
  split <;> simp [wRing, wMsgS, wSubS, wIntS, sumL]
theorem c_laws_FnExactNewRing (c : Int) : Sound P 6 [.int .i64 c] (.bool true) := by
  have hw : wRing (newRing c) ≤ 4194304 := by rw [newRing_w]; omega
  have h10 := mt10Ring (newRing c)
  have hk : 1 + ((mtRingW (newRing c) : Nat) : Int) ≤ 1099511627776 := by omega
  have hb : decide (1 + ((mtRingW (newRing c) : Nat) : Int) < 0) = false := by simp; omega
  have h0 : (0 : Int) ≤ 1 := by omega
  clear h10
  refine sound_body hT Go.Proofs.Try.func6 rfl ?_
  rw [Go.Proofs.Try.results6, Go.Proofs.Try.ntmps6]
  simp only [frame, List.length_cons, List.length_nil, List.replicate, List.cons_append, List.nil_append, Nat.reduceAdd, Nat.reduceSub]
  repeat' (first
  | with_reducible first | refine aw_seq ?_ | refine aw_block ?_ | refine aw_skip ?_ | refine aw_exit ?_
  | with_reducible first | refine aw_ret ?_ | refine thenA_n ?_ | refine thenA_r ?_ | refine thenA_x ?_ | refine blockA_n ?_ | refine blockA_r ?_ | refine blockA_e ?_ | refine blockA_x (by decide) ?_ | refine ends_r ?_ | refine ends_n ?_ | refine ends_rM ?_ | refine ends_nM ?_ | refine aw_reg ?_
  | (with_reducible refine aw_any hT ?_ ?_; · decide +kernel)
  | with_reducible refine al_nil ?_
  | (with_reducible apply aw_cond
     · simp only [go_sem, *]; with_reducible rfl
     all_goals (intro h; try simp only [Bool.not_eq_true', Bool.not_eq_false', reduceCtorEq] at h))
  | (with_reducible apply al_call (f := 22)
     · first | exact gchk_none rfl | simp only [go_sem, *]
     · rfl
     · exact Go.Proofs.Try.call22
     · simp only [go_sem, encRing, *]; with_reducible rfl
     · simp only [go_sem, *]
     · (with_reducible apply c_spec_NewRing) <;> first | assumption | rfl
     · simp only [go_sem]; with_reducible rfl)
  | (with_reducible apply al_snap (f := 22)
     · first | exact gchk_none rfl | simp only [go_sem, *]
     · rfl
     · exact Go.Proofs.Try.call22
     · simp only [go_sem, encRing, *]; with_reducible rfl
     · simp only [go_sem, encRing, *]; with_reducible rfl
     · (with_reducible apply c_spec_NewRing) <;> first | assumption | rfl
     · simp only [go_sem, *]
     · simp only [go_sem]; with_reducible rfl)
  | (with_reducible apply al_call (f := 23)
     · first | exact gchk_none rfl | simp only [go_sem, *]
     · rfl
     · exact Go.Proofs.Try.call23
     · simp only [go_sem, encRing, *]; with_reducible rfl
     · simp only [go_sem, *]
     · (with_reducible apply c_impl_NewRing) <;> first | assumption | rfl
     · simp only [go_sem]; with_reducible rfl)
  | (with_reducible apply al_snap (f := 23)
     · first | exact gchk_none rfl | simp only [go_sem, *]
     · rfl
     · exact Go.Proofs.Try.call23
     · simp only [go_sem, encRing, *]; with_reducible rfl
     · simp only [go_sem, encRing, *]; with_reducible rfl
     · (with_reducible apply c_impl_NewRing) <;> first | assumption | rfl
     · simp only [go_sem, *]
     · simp only [go_sem]; with_reducible rfl)
  | (with_reducible apply al_call (f := 24)
     · first | exact gchk_none rfl | simp only [go_sem, *]
     · rfl
     · exact Go.Proofs.Try.call24
     · simp only [go_sem, encRing, *]; with_reducible rfl
     · simp only [go_sem, *]
     · (with_reducible apply c_laws_eqRing) <;> first | assumption | rfl
     · simp only [go_sem]; with_reducible rfl)
  | (with_reducible apply al_snap (f := 24)
     · first | exact gchk_none rfl | simp only [go_sem, *]
     · rfl
     · exact Go.Proofs.Try.call24
     · simp only [go_sem, encRing, *]; with_reducible rfl
     · simp only [go_sem, encRing, *]; with_reducible rfl
     · (with_reducible apply c_laws_eqRing) <;> first | assumption | rfl
     · simp only [go_sem, *]
     · simp only [go_sem]; with_reducible rfl)
  | (with_reducible apply al_call (f := 25)
     · first | exact gchk_none rfl | simp only [go_sem, *]
     · rfl
     · exact Go.Proofs.Try.call25
     · simp only [go_sem, encRing, *]; with_reducible rfl
     · simp only [go_sem, *]
     · (with_reducible apply c_laws_markRing) <;> first | assumption | rfl
     · simp only [go_sem]; with_reducible rfl)
  | (with_reducible apply al_snap (f := 25)
     · first | exact gchk_none rfl | simp only [go_sem, *]
     · rfl
     · exact Go.Proofs.Try.call25
     · simp only [go_sem, encRing, *]; with_reducible rfl
     · simp only [go_sem, encRing, *]; with_reducible rfl
     · (with_reducible apply c_laws_markRing) <;> first | assumption | rfl
     · simp only [go_sem, *]
     · simp only [go_sem]; with_reducible rfl)
  | (with_reducible apply al_call (f := 26)
     · first | exact gchk_none rfl | simp only [go_sem, *]
     · rfl
     · exact Go.Proofs.Try.call26
     · simp only [go_sem, encRing, *]; with_reducible rfl
     · simp only [go_sem, *]
     · (with_reducible apply c_laws_heldRing) <;> first | assumption | rfl
     · simp only [go_sem]; with_reducible rfl)
  | (with_reducible apply al_snap (f := 26)
     · first | exact gchk_none rfl | simp only [go_sem, *]
     · rfl
     · exact Go.Proofs.Try.call26
     · simp only [go_sem, encRing, *]; with_reducible rfl
     · simp only [go_sem, encRing, *]; with_reducible rfl
     · (with_reducible apply c_laws_heldRing) <;> first | assumption | rfl
     · simp only [go_sem, *]
     · simp only [go_sem]; with_reducible rfl)
  | (with_reducible apply al_lendV (f := 25) 0
     · exact gchk_none rfl
     · rfl
     · exact Go.Proofs.Try.call25
     · simp only [go_sem, encRing, *]; with_reducible rfl
     · simp only [go_sem]; with_reducible rfl
     · simp only [go_sem]; with_reducible rfl
     · simp only [go_sem]; with_reducible rfl
     · simp only [go_sem, *]
     · simp only [go_sem, encRing, *]; with_reducible rfl
     · simp only [go_sem, encRing, *]
     · simp only [go_sem, *]
     · simp only [go_sem, *]
     · simp only [go_sem]
       (with_reducible apply m_laws_markRing) <;> first | assumption | rfl
     · simp only [go_sem, encRing, *]
     · simp only [go_sem, encRing]; with_reducible rfl)
  | (with_reducible apply al_movetup
     · exact gchk_none rfl
     · rfl
     · simp only [go_sem, *]; with_reducible rfl
     · simp only [go_sem]; with_reducible rfl)
  | (with_reducible apply al_s hT true
     · first | exact gchk_none rfl | simp only [go_sem, *]
     · simp only [go_sem, encRing, *]; first | done | with_reducible rfl)
  | (with_reducible apply al_q hT
     · first | exact gchk_none rfl | simp only [go_sem, *]
     · simp only [go_sem, encRing, *]; first | done | with_reducible rfl
     · simp only [go_sem]; with_reducible rfl)
  | (with_reducible apply al_skip
     · simp only [go_sem, *]
     · simp only [go_sem]; with_reducible rfl)
  | ((with_reducible first | apply al_caseT rfl | apply al_caseF rfl)
     · simp only [go_sem, *]; with_reducible rfl
     · simp only [go_sem]; with_reducible rfl
     all_goals (intro h; try simp only [Bool.not_eq_true', Bool.not_eq_false'] at h)
     fail_if_success (with_reducible have hh : (true = true ∨ false = false) := by first | exact Or.inl h | exact Or.inr h))
  )
  all_goals (simp only [go_sem, *])
end Go.Proofs.Ytjmodjanaeoiiaa
