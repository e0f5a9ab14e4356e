/- Contracts: the other filter. -/
import Derived.Test.YtjmodjanaeoiiaaFnH
import Derived.Test.YtjmodjanaeoiiaaBvAr
namespace Go.Proofs.Ytjmodjanaeoiiaa
open Go Go.RowKit Go.Bv
set_option linter.unusedSimpArgs false
set_option linter.unusedVariables false
set_option maxRecDepth 4000

theorem c_slices_Clone_impl_Term_impl_Term {s : Nat} (f : List TermV) (hf : f.length ≤ 2097152) : Sound P 58 [.lst false s (f.map encT)] (.lst true 3 (f.map encT)) := by
  have hal := alen_encT f
  have htk := take_encT f
  refine sound_body hT Go.Proofs.Try.func58 rfl ?_
  rw [Go.Proofs.Try.results58, Go.Proofs.Try.ntmps58]
  simp only [frame, List.length_cons, List.length_nil, List.replicate, List.cons_append, List.nil_append, Nat.reduceAdd, Nat.reduceSub]
  repeat' (first
  | with_reducible first | refine aw_seq ?_ | refine aw_block ?_ | refine aw_skip ?_ | refine aw_exit ?_
  | (with_reducible apply aw_ret_tag (r := 2) (p := []) 3
     · simp only [go_sem]; with_reducible rfl
     · simp only [go_sem]
     · simp only [go_sem]; first | done | with_reducible rfl
     · simp only [go_sem]; with_reducible rfl)
  | with_reducible first | refine aw_ret ?_ | refine thenA_n ?_ | refine thenA_r ?_ | refine thenA_x ?_ | refine blockA_n ?_ | refine blockA_r ?_ | refine blockA_e ?_ | refine blockA_x (by decide) ?_ | refine ends_r ?_ | refine ends_n ?_ | refine ends_rM ?_ | refine ends_nM ?_ | refine aw_reg ?_
  | (with_reducible refine aw_any hT ?_ ?_; · decide +kernel)
  | with_reducible refine al_nil ?_
  | (with_reducible apply aw_cond
     · simp only [go_sem, *]; with_reducible rfl
     all_goals (intro h; try simp only [Bool.not_eq_true', Bool.not_eq_false', reduceCtorEq] at h))
  | (with_reducible apply al_append hT
     · exact gchk_none rfl
     · rfl
     · simp only [go_sem]; first | done | with_reducible rfl
     · simp only [go_sem]
     · simp only [go_sem]; first | done | with_reducible rfl
     · simp only [go_sem]
     · simp only [go_sem, List.length_map, *]; with_reducible rfl
     · simp only [go_sem, List.length_map, *]; with_reducible rfl
     · simp only [go_sem, *]
     · simp only [go_sem, List.length_map, *]; with_reducible rfl
     · simp only [go_sem, List.length_map, *]; with_reducible rfl
     · simp only [go_sem, *]
     · simp only [go_sem]; first | done | omega
     · simp only [go_sem]; first | done | omega
     · simp only [go_sem]; with_reducible rfl)
  | (with_reducible apply al_bslice hT
     · exact gchk_none rfl
     · rfl
     · simp only [go_sem]; first | done | with_reducible rfl
     · simp only [go_sem]
     · simp only [go_sem]; first | done | with_reducible rfl
     · simp only [go_sem]
     · simp only [go_sem]; first | done | omega
     · simp only [go_sem, List.length_map, *]; with_reducible rfl
     · simp only [go_sem, List.length_map, *]; with_reducible rfl
     · simp only [go_sem]
     · simp only [go_sem]; with_reducible rfl)
  | (with_reducible apply al_isnil hT
     · exact gchk_none rfl
     · rfl
     · simp only [go_sem]; first | done | with_reducible rfl
     · simp only [go_sem, List.length_map, *]; with_reducible rfl
     · simp only [go_sem, List.length_map, *]; with_reducible rfl
     intro b hb
     with_reducible apply al_cast
     · simp only [go_sem]; with_reducible rfl)
  | (with_reducible apply al_s hT false
     · first | exact gchk_none rfl | simp only [go_sem, *]
     · simp only [go_sem, List.length_map, *]; first | done | with_reducible rfl)
  | (with_reducible apply al_q hT
     · first | exact gchk_none rfl | simp only [go_sem, *]
     · simp only [go_sem, List.length_map, *]; first | done | with_reducible rfl
     · simp only [go_sem]; with_reducible rfl)
  | (with_reducible apply al_skip
     · simp only [go_sem, *]
     · simp only [go_sem]; with_reducible rfl)
  | ((with_reducible first | apply al_caseT rfl | apply al_caseF rfl)
     · simp only [go_sem, *]; with_reducible rfl
     · simp only [go_sem]; with_reducible rfl
     all_goals (intro h; try simp only [Bool.not_eq_true', Bool.not_eq_false'] at h)
     fail_if_success (with_reducible have hh : (true = true ∨ false = false) := by first | exact Or.inl h | exact Or.inr h))
  )
  · have hf0 : f = [] := by
      have : f.length = 0 := by
        by_cases h0 : f.length = 0
        · exact h0
        · have := hb h0; rw [h] at this; cases this
      exact List.eq_nil_of_length_eq_zero this
    subst hf0
    (simp only [go_sem, *])
    first | done | rfl
  · (simp only [go_sem, *])
/-- The other filter. -/
def otherL (f : List TermV) : List TermV := (if f.length = 0 then f ++ [⟨1, 0, ⟨#[]⟩⟩] else f) ++ [⟨8, 0, ⟨#[]⟩⟩]
/-- .. where there is one. -/
def otherB (f : List TermV) : Bool := filterB f && decide (f.length + 1 ≤ 12)
def otherV (f : List TermV) : AV := .tup [.lst true 3 (if otherB f then (otherL f).map encT else []), .bool (otherB f)]
theorem c_impl_Other {s : Nat} (f : List TermV) (hf : f.length ≤ 2097152) (hf' : f.length < 4611686018427387904) (hts : ∀ t ∈ f, t.fits) : Sound P 17 [.lst false s (f.map encT)] (otherV f) := by
  have hal := alen_encT f
  have htk := take_encT f
  have hpl := plAs_encT f
  refine sound_body hT Go.Proofs.Try.func17 rfl ?_
  rw [Go.Proofs.Try.results17, Go.Proofs.Try.ntmps17]
  simp only [frame, List.length_cons, List.length_nil, List.replicate, List.cons_append, List.nil_append, Nat.reduceAdd, Nat.reduceSub]
  repeat' (first
  | with_reducible first | refine aw_seq ?_ | refine aw_block ?_ | refine aw_skip ?_ | refine aw_exit ?_
  | (with_reducible apply aw_ret_tag (r := 2) (p := []) 3
     · simp only [go_sem]; with_reducible rfl
     · simp only [go_sem]
     · simp only [go_sem]; first | done | with_reducible rfl
     · simp only [go_sem]; with_reducible rfl)
  | with_reducible first | refine aw_ret ?_ | refine thenA_n ?_ | refine thenA_r ?_ | refine thenA_x ?_ | refine blockA_n ?_ | refine blockA_r ?_ | refine blockA_e ?_ | refine blockA_x (by decide) ?_ | refine ends_r ?_ | refine ends_n ?_ | refine ends_rM ?_ | refine ends_nM ?_ | refine aw_reg ?_
  | (with_reducible refine aw_any hT ?_ ?_; · decide +kernel)
  | with_reducible refine al_nil ?_
  | (with_reducible apply aw_cond
     · simp only [go_sem, *]; with_reducible rfl
     all_goals (intro h; try simp only [Bool.not_eq_true', Bool.not_eq_false', reduceCtorEq] at h))
  | (with_reducible apply al_call (f := 58)
     · first | exact gchk_none rfl | simp only [go_sem, *]
     · rfl
     · exact Go.Proofs.Try.call58
     · simp only [go_sem, List.length_map, *]; with_reducible rfl
     · simp only [go_sem, *]
     · (with_reducible apply c_slices_Clone_impl_Term_impl_Term) <;> assumption
     · simp only [go_sem]; with_reducible rfl)
  | (with_reducible apply al_snap (f := 58)
     · first | exact gchk_none rfl | simp only [go_sem, *]
     · rfl
     · exact Go.Proofs.Try.call58
     · simp only [go_sem, List.length_map, *]; with_reducible rfl
     · simp only [go_sem, List.length_map, *]; with_reducible rfl
     · (with_reducible apply c_slices_Clone_impl_Term_impl_Term) <;> assumption
     · simp only [go_sem, *]
     · simp only [go_sem]; with_reducible rfl)
  | (with_reducible apply al_call (f := 14)
     · first | exact gchk_none rfl | simp only [go_sem, *]
     · rfl
     · exact Go.Proofs.Try.call14
     · simp only [go_sem, List.length_map, *]; with_reducible rfl
     · simp only [go_sem, *]
     · (with_reducible apply c_impl_FilterOk) <;> assumption
     · simp only [go_sem]; with_reducible rfl)
  | (with_reducible apply al_snap (f := 14)
     · first | exact gchk_none rfl | simp only [go_sem, *]
     · rfl
     · exact Go.Proofs.Try.call14
     · simp only [go_sem, List.length_map, *]; with_reducible rfl
     · simp only [go_sem, List.length_map, *]; with_reducible rfl
     · (with_reducible apply c_impl_FilterOk) <;> assumption
     · simp only [go_sem, *]
     · simp only [go_sem]; with_reducible rfl)
  | (with_reducible apply al_append hT
     · exact gchk_none rfl
     · rfl
     · simp only [go_sem]; first | done | with_reducible rfl
     · simp only [go_sem]
     · simp only [go_sem]; first | done | with_reducible rfl
     · simp only [go_sem]
     · simp only [go_sem, List.length_map, *]; with_reducible rfl
     · simp only [go_sem, List.length_map, *]; with_reducible rfl
     · simp only [go_sem, *]
     · simp only [go_sem, List.length_map, *]; with_reducible rfl
     · simp only [go_sem, List.length_map, *]; with_reducible rfl
     · simp only [go_sem, *]
     · simp only [go_sem]; first | done | omega
     · simp only [go_sem]; first | done | omega
     · simp only [go_sem]; with_reducible rfl)
  | (with_reducible apply al_build hT
     · exact gchk_none rfl
     · rfl
     · simp only [go_sem]; first | done | with_reducible rfl
     · simp only [go_sem]; first | done | with_reducible rfl
     · simp only [go_sem, bldOk, List.sum_cons, List.sum_nil]; first | done | decide
     · simp only [go_sem, List.length_map, *]; with_reducible rfl
     · simp only [go_sem, List.length_map, *]; with_reducible rfl
     · simp only [go_sem]
     · simp only [go_sem]; with_reducible rfl)
  | (with_reducible apply al_bslice hT
     · exact gchk_none rfl
     · rfl
     · simp only [go_sem]; first | done | with_reducible rfl
     · simp only [go_sem]
     · simp only [go_sem]; first | done | with_reducible rfl
     · simp only [go_sem]
     · simp only [go_sem]; first | done | omega
     · simp only [go_sem, List.length_map, *]; with_reducible rfl
     · simp only [go_sem, List.length_map, *]; with_reducible rfl
     · simp only [go_sem]
     · simp only [go_sem]; with_reducible rfl)
  | (with_reducible apply al_s hT false
     · first | exact gchk_none rfl | simp only [go_sem, *]
     · simp only [go_sem, List.length_map, *]; first | done | with_reducible rfl)
  | (with_reducible apply al_q hT
     · first | exact gchk_none rfl | simp only [go_sem, *]
     · simp only [go_sem, List.length_map, *]; first | done | with_reducible rfl
     · simp only [go_sem]; with_reducible rfl)
  | (with_reducible apply al_skip
     · simp only [go_sem, *]
     · simp only [go_sem]; with_reducible rfl)
  | ((with_reducible first | apply al_caseT rfl | apply al_caseF rfl)
     · simp only [go_sem, *]; with_reducible rfl
     · simp only [go_sem]; with_reducible rfl
     all_goals (intro h; try simp only [Bool.not_eq_true', Bool.not_eq_false'] at h)
     fail_if_success (with_reducible have hh : (true = true ∨ false = false) := by first | exact Or.inl h | exact Or.inr h))
  )
  all_goals (
    (simp only [go_sem, *])
    clear hal htk hpl hts
    try simp only [beq_iff_eq, beq_eq_false_iff_ne, ne_eq, decide_eq_true_eq, decide_eq_false_iff_not] at *
    first
    | (exfalso; omega)
    | (by_cases h0 : f.length = 0 <;> by_cases h12 : f.length + 1 ≤ 12 <;> first | (exfalso; omega) | (simp_all [otherV, otherB, otherL, encT]; done)))
theorem c_spec_Other {s : Nat} (f : List TermV) (hf : f.length ≤ 2097152) (hf' : f.length < 4611686018427387904) (hts : ∀ t ∈ f, t.fits) : Sound P 16 [.lst false s (f.map encT)] (otherV f) := by
  have hal := alen_encT f
  have htk := take_encT f
  have hpl := plAs_encT f
  have hwl : IntKind.i64.wrap ((f.length : Int) + 1) = ((f.length + 1 : Nat) : Int) := by rw [wrap_small] <;> omega
  refine sound_body hT Go.Proofs.Try.func16 rfl ?_
  rw [Go.Proofs.Try.results16, Go.Proofs.Try.ntmps16]
  simp only [frame, List.length_cons, List.length_nil, List.replicate, List.cons_append, List.nil_append, Nat.reduceAdd, Nat.reduceSub]
  repeat' (first
  | with_reducible first | refine aw_seq ?_ | refine aw_block ?_ | refine aw_skip ?_ | refine aw_exit ?_
  | (with_reducible apply aw_ret_tag (r := 2) (p := []) 3
     · simp only [go_sem]; with_reducible rfl
     · simp only [go_sem]
     · simp only [go_sem]; first | done | with_reducible rfl
     · simp only [go_sem]; with_reducible rfl)
  | with_reducible first | refine aw_ret ?_ | refine thenA_n ?_ | refine thenA_r ?_ | refine thenA_x ?_ | refine blockA_n ?_ | refine blockA_r ?_ | refine blockA_e ?_ | refine blockA_x (by decide) ?_ | refine ends_r ?_ | refine ends_n ?_ | refine ends_rM ?_ | refine ends_nM ?_ | refine aw_reg ?_
  | (with_reducible refine aw_any hT ?_ ?_; · decide +kernel)
  | with_reducible refine al_nil ?_
  | (with_reducible apply aw_cond
     · simp only [go_sem, *]; with_reducible rfl
     all_goals (intro h; try simp only [Bool.not_eq_true', Bool.not_eq_false', reduceCtorEq] at h))
  | (with_reducible apply al_call (f := 12)
     · first | exact gchk_none rfl | simp only [go_sem, *]
     · rfl
     · exact Go.Proofs.Try.call12
     · simp only [go_sem, List.length_map, *]; with_reducible rfl
     · simp only [go_sem, *]
     · (with_reducible apply c_spec_FilterOk) <;> assumption
     · simp only [go_sem]; with_reducible rfl)
  | (with_reducible apply al_snap (f := 12)
     · first | exact gchk_none rfl | simp only [go_sem, *]
     · rfl
     · exact Go.Proofs.Try.call12
     · simp only [go_sem, List.length_map, *]; with_reducible rfl
     · simp only [go_sem, List.length_map, *]; with_reducible rfl
     · (with_reducible apply c_spec_FilterOk) <;> assumption
     · simp only [go_sem, *]
     · simp only [go_sem]; with_reducible rfl)
  | (with_reducible apply al_append hT
     · exact gchk_none rfl
     · rfl
     · simp only [go_sem]; first | done | with_reducible rfl
     · simp only [go_sem]
     · simp only [go_sem]; first | done | with_reducible rfl
     · simp only [go_sem]
     · simp only [go_sem, List.length_map, *]; with_reducible rfl
     · simp only [go_sem, List.length_map, *]; with_reducible rfl
     · simp only [go_sem, *]
     · simp only [go_sem, List.length_map, *]; with_reducible rfl
     · simp only [go_sem, List.length_map, *]; with_reducible rfl
     · simp only [go_sem, *]
     · simp only [go_sem]; first | done | omega
     · simp only [go_sem]; first | done | omega
     · simp only [go_sem]; with_reducible rfl)
  | (with_reducible apply al_build hT
     · exact gchk_none rfl
     · rfl
     · simp only [go_sem]; first | done | with_reducible rfl
     · simp only [go_sem]; first | done | with_reducible rfl
     · simp only [go_sem, bldOk, List.sum_cons, List.sum_nil]; first | done | decide
     · simp only [go_sem, List.length_map, *]; with_reducible rfl
     · simp only [go_sem, List.length_map, *]; with_reducible rfl
     · simp only [go_sem]
     · simp only [go_sem]; with_reducible rfl)
  | (with_reducible apply al_bslice hT
     · exact gchk_none rfl
     · rfl
     · simp only [go_sem]; first | done | with_reducible rfl
     · simp only [go_sem]
     · simp only [go_sem]; first | done | with_reducible rfl
     · simp only [go_sem]
     · simp only [go_sem]; first | done | omega
     · simp only [go_sem, List.length_map, *]; with_reducible rfl
     · simp only [go_sem, List.length_map, *]; with_reducible rfl
     · simp only [go_sem]
     · simp only [go_sem]; with_reducible rfl)
  | (with_reducible apply al_s hT false
     · first | exact gchk_none rfl | simp only [go_sem, *]
     · simp only [go_sem, List.length_map, *]; first | done | with_reducible rfl)
  | (with_reducible apply al_q hT
     · first | exact gchk_none rfl | simp only [go_sem, *]
     · simp only [go_sem, List.length_map, *]; first | done | with_reducible rfl
     · simp only [go_sem]; with_reducible rfl)
  | (with_reducible apply al_skip
     · simp only [go_sem, *]
     · simp only [go_sem]; with_reducible rfl)
  | ((with_reducible first | apply al_caseT rfl | apply al_caseF rfl)
     · simp only [go_sem, *]; with_reducible rfl
     · simp only [go_sem]; with_reducible rfl
     all_goals (intro h; try simp only [Bool.not_eq_true', Bool.not_eq_false'] at h)
     fail_if_success (with_reducible have hh : (true = true ∨ false = false) := by first | exact Or.inl h | exact Or.inr h))
  )
  all_goals (
    (simp only [go_sem, *])
    clear hal htk hpl hts hwl
    try simp only [beq_iff_eq, beq_eq_false_iff_ne, ne_eq, decide_eq_true_eq, decide_eq_false_iff_not] at *
    first
    | (exfalso; omega)
    | (by_cases h0 : f.length = 0 <;> by_cases h12 : f.length + 1 ≤ 12 <;> first | (exfalso; omega) | (simp_all [otherV, otherB, otherL, encT]; done)))
end Go.Proofs.Ytjmodjanaeoiiaa
