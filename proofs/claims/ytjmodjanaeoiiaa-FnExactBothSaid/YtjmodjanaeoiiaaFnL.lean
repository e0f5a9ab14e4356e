/- Contracts: both filters; the law. -/
import Derived.Test.YtjmodjanaeoiiaaFnK
namespace Go.Proofs.Ytjmodjanaeoiiaa
open Go Go.RowKit Go.Bv
set_option linter.unusedSimpArgs false
set_option linter.unusedVariables false
set_option maxRecDepth 4000

/-- Both filters as one. -/
def bothL (f g : List TermV) : List TermV := if 0 < f.length ∧ 0 < g.length then f ++ g ++ [⟨9, 0, ⟨#[]⟩⟩] else f ++ g
def bothB (f g : List TermV) : Bool := filterB f && filterB g && decide ((bothL f g).length ≤ 12)
def bothV (f g : List TermV) : AV := .tup [.lst true 3 (if bothB f g then (bothL f g).map encT else []), .bool (bothB f g)]
theorem filterB_len {f : List TermV} (h : filterB f = true) : f.length ≤ 12 := by
  unfold filterB at h
  split at h
  · simp only [Bool.and_eq_true, decide_eq_true_eq] at h
    omega
  · cases h
set_option maxHeartbeats 1000000 in
theorem c_impl_Both {s s' : Nat} (f g : List TermV) (hf : f.length ≤ 1048576) (hg : g.length ≤ 1048576) (hf' : f.length < 4611686018427387904) (hg' : g.length < 4611686018427387904) (hts : ∀ t ∈ f, t.fits) (hus : ∀ t ∈ g, t.fits) : Sound P 21 [.lst false s (f.map encT), .lst false s' (g.map encT)] (bothV f g) := by
  refine sound_body hT Go.Proofs.Try.func21 rfl ?_
  rw [Go.Proofs.Try.results21, Go.Proofs.Try.ntmps21]
  simp only [frame, List.length_cons, List.length_nil, List.replicate, List.cons_append, List.nil_append, Nat.reduceAdd, Nat.reduceSub]
  repeat' (first
  | with_reducible first | refine aw_seq ?_ | refine aw_block ?_ | refine aw_skip ?_ | refine aw_exit ?_
  | (with_reducible apply aw_ret_tag (r := 4) (p := []) 3
     · simp only [go_sem]; with_reducible rfl
     · simp only [go_sem]
     · simp only [go_sem]; first | done | with_reducible rfl
     · simp only [go_sem]; with_reducible rfl)
  | with_reducible first | refine aw_ret ?_ | refine thenA_n ?_ | refine thenA_r ?_ | refine thenA_x ?_ | refine blockA_n ?_ | refine blockA_r ?_ | refine blockA_e ?_ | refine blockA_x (by decide) ?_ | refine ends_r ?_ | refine ends_n ?_ | refine ends_rM ?_ | refine ends_nM ?_ | refine aw_reg ?_
  | (with_reducible refine aw_any hT ?_ ?_; · decide +kernel)
  | with_reducible refine al_nil ?_
  | (with_reducible apply aw_cond
     · simp only [go_sem, *]; with_reducible rfl
     all_goals (intro h; try simp only [Bool.not_eq_true', Bool.not_eq_false', reduceCtorEq] at h))
  | (with_reducible apply al_call (f := 60)
     · first | exact gchk_none rfl | simp only [go_sem, *]
     · rfl
     · exact Go.Proofs.Try.call60
     · simp only [go_sem, *]; with_reducible rfl
     · simp only [go_sem, *]
     · (with_reducible apply c_slices_Concat_impl_Term_impl_Term) <;> assumption
     · simp only [go_sem]; with_reducible rfl)
  | (with_reducible apply al_snap (f := 60)
     · first | exact gchk_none rfl | simp only [go_sem, *]
     · rfl
     · exact Go.Proofs.Try.call60
     · simp only [go_sem, *]; with_reducible rfl
     · simp only [go_sem, *]; with_reducible rfl
     · (with_reducible apply c_slices_Concat_impl_Term_impl_Term) <;> assumption
     · simp only [go_sem, *]
     · simp only [go_sem]; with_reducible rfl)
  | (with_reducible apply al_call (f := 14)
     · first | exact gchk_none rfl | simp only [go_sem, *]
     · rfl
     · exact Go.Proofs.Try.call14
     · simp only [go_sem, *]; with_reducible rfl
     · simp only [go_sem, *]
     · (with_reducible apply c_impl_FilterOk) <;> assumption
     · simp only [go_sem]; with_reducible rfl)
  | (with_reducible apply al_snap (f := 14)
     · first | exact gchk_none rfl | simp only [go_sem, *]
     · rfl
     · exact Go.Proofs.Try.call14
     · simp only [go_sem, *]; with_reducible rfl
     · simp only [go_sem, *]; with_reducible rfl
     · (with_reducible apply c_impl_FilterOk) <;> assumption
     · simp only [go_sem, *]
     · simp only [go_sem]; with_reducible rfl)
  | (with_reducible apply al_append hT
     · exact gchk_none rfl
     · rfl
     · simp only [go_sem]; first | done | with_reducible rfl
     · simp only [go_sem]
     · simp only [go_sem]; first | done | with_reducible rfl
     · simp only [go_sem]
     · simp only [go_sem, *]; with_reducible rfl
     · simp only [go_sem, *]; with_reducible rfl
     · simp only [go_sem, *]
     · simp only [go_sem, *]; with_reducible rfl
     · simp only [go_sem, *]; with_reducible rfl
     · simp only [go_sem, *]
     · simp only [go_sem]; first | done | omega
     · simp only [go_sem]; first | done | omega
     · simp only [go_sem]; with_reducible rfl)
  | (with_reducible apply al_build hT
     · exact gchk_none rfl
     · rfl
     · simp only [go_sem]; first | done | with_reducible rfl
     · simp only [go_sem]; first | done | with_reducible rfl
     · simp only [go_sem, bldOk, List.sum_cons, List.sum_nil]; first | done | decide
     · simp only [go_sem, *]; with_reducible rfl
     · simp only [go_sem, *]; with_reducible rfl
     · simp only [go_sem]
     · simp only [go_sem]; with_reducible rfl)
  | (with_reducible apply al_bslice hT
     · exact gchk_none rfl
     · rfl
     · simp only [go_sem]; first | done | with_reducible rfl
     · simp only [go_sem]
     · simp only [go_sem]; first | done | with_reducible rfl
     · simp only [go_sem]
     · simp only [go_sem]; first | done | omega
     · simp only [go_sem, *]; with_reducible rfl
     · simp only [go_sem, *]; with_reducible rfl
     · simp only [go_sem]
     · simp only [go_sem]; with_reducible rfl)
  | (with_reducible apply al_s hT false
     · first | exact gchk_none rfl | simp only [go_sem, *]
     · simp only [go_sem, *]; first | done | with_reducible rfl)
  | (with_reducible apply al_q hT
     · first | exact gchk_none rfl | simp only [go_sem, *]
     · simp only [go_sem, *]; first | done | with_reducible rfl
     · simp only [go_sem]; with_reducible rfl)
  | (with_reducible apply al_skip
     · simp only [go_sem, *]
     · simp only [go_sem]; with_reducible rfl)
  | ((with_reducible first | apply al_caseT rfl | apply al_caseF rfl)
     · simp only [go_sem, *]; with_reducible rfl
     · simp only [go_sem]; with_reducible rfl
     all_goals (intro h; try simp only [Bool.not_eq_true', Bool.not_eq_false'] at h)
     fail_if_success (with_reducible have hh : (true = true ∨ false = false) := by first | exact Or.inl h | exact Or.inr h))
  )
  all_goals (
    (simp only [go_sem, *])
    clear hts hus
    have hf12 := @filterB_len f
    have hg12 := @filterB_len g
    simp only [bothV, bothB, bothL]
    try simp only [beq_iff_eq, beq_eq_false_iff_ne, ne_eq, decide_eq_true_eq, decide_eq_false_iff_not, gt_iff_lt] at *
    by_cases hF : filterB f = true <;> by_cases hG : filterB g = true <;> by_cases h0 : 0 < f.length ∧ 0 < g.length <;> by_cases h12 : f.length + g.length + (if 0 < f.length ∧ 0 < g.length then 1 else 0) ≤ 12 <;>
      first
      | (exfalso; simp_all; done)
      | (exfalso; simp_all; omega)
      | (simp_all [encT]; done)
      | (simp_all [encT]; omega))
set_option maxHeartbeats 1000000 in
theorem c_spec_Both {s s' : Nat} (f g : List TermV) (hf : f.length ≤ 1048576) (hg : g.length ≤ 1048576) (hf' : f.length < 4611686018427387904) (hg' : g.length < 4611686018427387904) (hts : ∀ t ∈ f, t.fits) (hus : ∀ t ∈ g, t.fits) : Sound P 20 [.lst false s (f.map encT), .lst false s' (g.map encT)] (bothV f g) := by
  have hwa : IntKind.i64.wrap ((f.length : Int) + (g.length : Int)) = ((f.length + g.length : Nat) : Int) := by rw [wrap_small] <;> omega
  have hwb : IntKind.i64.wrap (((f.length + g.length : Nat) : Int) + 1) = ((f.length + g.length + 1 : Nat) : Int) := by rw [wrap_small] <;> omega
  refine sound_body hT Go.Proofs.Try.func20 rfl ?_
  rw [Go.Proofs.Try.results20, Go.Proofs.Try.ntmps20]
  simp only [frame, List.length_cons, List.length_nil, List.replicate, List.cons_append, List.nil_append, Nat.reduceAdd, Nat.reduceSub]
  repeat' (first
  | with_reducible first | refine aw_seq ?_ | refine aw_block ?_ | refine aw_skip ?_ | refine aw_exit ?_
  | (with_reducible apply aw_ret_tag (r := 4) (p := []) 3
     · simp only [go_sem]; with_reducible rfl
     · simp only [go_sem]
     · simp only [go_sem]; first | done | with_reducible rfl
     · simp only [go_sem]; with_reducible rfl)
  | with_reducible first | refine aw_ret ?_ | refine thenA_n ?_ | refine thenA_r ?_ | refine thenA_x ?_ | refine blockA_n ?_ | refine blockA_r ?_ | refine blockA_e ?_ | refine blockA_x (by decide) ?_ | refine ends_r ?_ | refine ends_n ?_ | refine ends_rM ?_ | refine ends_nM ?_ | refine aw_reg ?_
  | (with_reducible refine aw_any hT ?_ ?_; · decide +kernel)
  | with_reducible refine al_nil ?_
  | (with_reducible apply aw_cond
     · simp only [go_sem, *]; with_reducible rfl
     all_goals (intro h; try simp only [Bool.not_eq_true', Bool.not_eq_false', reduceCtorEq] at h))
  | (with_reducible apply al_call (f := 12)
     · first | exact gchk_none rfl | simp only [go_sem, *]
     · rfl
     · exact Go.Proofs.Try.call12
     · simp only [go_sem, *]; with_reducible rfl
     · simp only [go_sem, *]
     · (with_reducible apply c_spec_FilterOk) <;> assumption
     · simp only [go_sem]; with_reducible rfl)
  | (with_reducible apply al_snap (f := 12)
     · first | exact gchk_none rfl | simp only [go_sem, *]
     · rfl
     · exact Go.Proofs.Try.call12
     · simp only [go_sem, *]; with_reducible rfl
     · simp only [go_sem, *]; with_reducible rfl
     · (with_reducible apply c_spec_FilterOk) <;> assumption
     · simp only [go_sem, *]
     · simp only [go_sem]; with_reducible rfl)
  | (with_reducible apply al_append hT
     · exact gchk_none rfl
     · rfl
     · simp only [go_sem]; first | done | with_reducible rfl
     · simp only [go_sem]
     · simp only [go_sem]; first | done | with_reducible rfl
     · simp only [go_sem]
     · simp only [go_sem, *]; with_reducible rfl
     · simp only [go_sem, *]; with_reducible rfl
     · simp only [go_sem, *]
     · simp only [go_sem, *]; with_reducible rfl
     · simp only [go_sem, *]; with_reducible rfl
     · simp only [go_sem, *]
     · simp only [go_sem]; first | done | omega
     · simp only [go_sem]; first | done | omega
     · simp only [go_sem]; with_reducible rfl)
  | (with_reducible apply al_build hT
     · exact gchk_none rfl
     · rfl
     · simp only [go_sem]; first | done | with_reducible rfl
     · simp only [go_sem]; first | done | with_reducible rfl
     · simp only [go_sem, bldOk, List.sum_cons, List.sum_nil]; first | done | decide
     · simp only [go_sem, *]; with_reducible rfl
     · simp only [go_sem, *]; with_reducible rfl
     · simp only [go_sem]
     · simp only [go_sem]; with_reducible rfl)
  | (with_reducible apply al_bslice hT
     · exact gchk_none rfl
     · rfl
     · simp only [go_sem]; first | done | with_reducible rfl
     · simp only [go_sem]
     · simp only [go_sem]; first | done | with_reducible rfl
     · simp only [go_sem]
     · simp only [go_sem]; first | done | omega
     · simp only [go_sem, *]; with_reducible rfl
     · simp only [go_sem, *]; with_reducible rfl
     · simp only [go_sem]
     · simp only [go_sem]; with_reducible rfl)
  | (with_reducible apply al_s hT false
     · first | exact gchk_none rfl | simp only [go_sem, *]
     · simp only [go_sem, *]; first | done | with_reducible rfl)
  | (with_reducible apply al_q hT
     · first | exact gchk_none rfl | simp only [go_sem, *]
     · simp only [go_sem, *]; first | done | with_reducible rfl
     · simp only [go_sem]; with_reducible rfl)
  | (with_reducible apply al_skip
     · simp only [go_sem, *]
     · simp only [go_sem]; with_reducible rfl)
  | ((with_reducible first | apply al_caseT rfl | apply al_caseF rfl)
     · simp only [go_sem, *]; with_reducible rfl
     · simp only [go_sem]; with_reducible rfl
     all_goals (intro h; try simp only [Bool.not_eq_true', Bool.not_eq_false'] at h)
     fail_if_success (with_reducible have hh : (true = true ∨ false = false) := by first | exact Or.inl h | exact Or.inr h))
  )
  all_goals (
    (simp only [go_sem, *])
    clear hts hus
    have hf12 := @filterB_len f
    have hg12 := @filterB_len g
    simp only [bothV, bothB, bothL]
    try simp only [beq_iff_eq, beq_eq_false_iff_ne, ne_eq, decide_eq_true_eq, decide_eq_false_iff_not, gt_iff_lt] at *
    by_cases hF : filterB f = true <;> by_cases hG : filterB g = true <;> by_cases h0 : 0 < f.length ∧ 0 < g.length <;> by_cases h12 : f.length + g.length + (if 0 < f.length ∧ 0 < g.length then 1 else 0) ≤ 12 <;>
      first
      | (exfalso; simp_all; done)
      | (exfalso; simp_all; omega)
      | (simp_all [encT]; done)
      | (simp_all [encT]; omega))
end Go.Proofs.Ytjmodjanaeoiiaa
