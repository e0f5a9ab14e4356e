/- Contracts: CloseRing, of the program. -/
import Derived.Test.YtcgkejggkenecaaFnUi
import Derived.Test.YtcgkejggkenecaaFnXc
import Derived.Test.YtcgkejggkenecaaBvAt
namespace Go.Proofs.Ytcgkejggkenecaa
open Go Go.RowKit Go.Bv
set_option linter.unusedSimpArgs false
set_option linter.unusedVariables false
set_option maxRecDepth 4000
set_option maxHeartbeats 1000000

theorem c_impl_release (f g : List Int) (hf : f.length ≤ 1048576) (hg : g.length ≤ 1048576) : Sound P 83 [.lst false 1 (f.map encInt), .lst false 1 (g.map encInt)] (.tup [.lst true 1 [], .lst true 1 ((g ++ f).map encInt)]) := by
  refine sound_body hT Go.Proofs.Try.func83 rfl ?_
  rw [Go.Proofs.Try.results83, Go.Proofs.Try.ntmps83]
  simp only [frame, List.length_cons, List.length_nil, List.replicate, List.cons_append, List.nil_append, Nat.reduceAdd, Nat.reduceSub]
  repeat' (first
  | with_reducible first | refine aw_seq ?_ | refine aw_block ?_ | refine aw_skip ?_ | refine aw_exit ?_
  | with_reducible first | refine aw_ret ?_ | refine thenA_n ?_ | refine thenA_r ?_ | refine thenA_x ?_ | refine blockA_n ?_ | refine blockA_r ?_ | refine blockA_e ?_ | refine blockA_x (by decide) ?_ | refine ends_r ?_ | refine ends_n ?_ | refine ends_rM ?_ | refine ends_nM ?_ | refine aw_reg ?_
  | (with_reducible refine aw_any hT ?_ ?_; · decide +kernel)
  | with_reducible refine al_nil ?_
  | (with_reducible apply aw_cond
     · simp only [go_sem, *]; with_reducible rfl
     all_goals (intro h; try simp only [Bool.not_eq_true', Bool.not_eq_false', reduceCtorEq] at h))
  | (with_reducible apply al_call (f := 113)
     · first | exact gchk_none rfl | simp only [go_sem, *]
     · rfl
     · exact Go.Proofs.Try.call113
     · simp only [go_sem, *]; with_reducible rfl
     · simp only [go_sem, *]
     · first | assumption | ((with_reducible apply c_slices_Concat_int_int) <;> first | assumption | rfl)
     · simp only [go_sem]; with_reducible rfl)
  | (with_reducible apply al_snap (f := 113)
     · first | exact gchk_none rfl | simp only [go_sem, *]
     · rfl
     · exact Go.Proofs.Try.call113
     · simp only [go_sem, *]; with_reducible rfl
     · simp only [go_sem, *]; with_reducible rfl
     · first | assumption | ((with_reducible apply c_slices_Concat_int_int) <;> first | assumption | rfl)
     · simp only [go_sem, *]
     · simp only [go_sem]; with_reducible rfl)
  | (with_reducible apply al_bslice hT
     · exact gchk_none rfl
     · rfl
     · simp only [go_sem]; first | done | with_reducible rfl
     · simp only [go_sem]
     · simp only [go_sem]; first | done | with_reducible rfl
     · simp only [go_sem]
     · simp only [go_sem]; first | done | omega
     · simp only [go_sem, *]; with_reducible rfl
     · simp only [go_sem, *]; with_reducible rfl
     · simp only [go_sem]
     · simp only [go_sem]; with_reducible rfl)
  | (with_reducible apply al_anil hT
     · exact gchk_none rfl
     · rfl
     · simp only [go_sem]; first | done | with_reducible rfl
     · simp only [go_sem]; with_reducible rfl)
  | (with_reducible apply al_s hT false
     · first | exact gchk_none rfl | simp only [go_sem, *]
     · simp only [go_sem, *]; first | done | with_reducible rfl)
  | (with_reducible apply al_q hT
     · first | exact gchk_none rfl | simp only [go_sem, *]
     · simp only [go_sem, *]; first | done | with_reducible rfl
     · simp only [go_sem]; with_reducible rfl)
  | (with_reducible apply al_skip
     · simp only [go_sem, *]
     · simp only [go_sem]; with_reducible rfl)
  | ((with_reducible first | apply al_caseT rfl | apply al_caseF rfl)
     · simp only [go_sem, *]; with_reducible rfl
     · simp only [go_sem]; with_reducible rfl
     all_goals (intro h; try simp only [Bool.not_eq_true', Bool.not_eq_false'] at h)
     fail_if_success (with_reducible have hh : (true = true ∨ false = false) := by first | exact Or.inl h | exact Or.inr h))
  )
  all_goals ((simp only [go_sem, *]); first | done | rfl)
def closeB (r : RingV) : Bool := ringB r && !r.closed
def closeR (r : RingV) : RingV := if closeB r then { r with line := [], grants := r.grants ++ r.line, closed := true } else r
def closeL (r : RingV) : List Int := if closeB r then r.line else []
def closeC (r : RingV) : Int := if ringB r then (if r.closed then 6 else 0) else 1
theorem c_impl_CloseRing (r : RingV) {u : AV} (hu : u = encRing false r) (hr : okRing r) (hw : wRing r ≤ 4194304) (h1 : r.line.length ≤ 1048576) (h2 : r.grants.length ≤ 1048576) : Sound P 25 [u] (.tup [encRing true (closeR r), .lst true 1 ((closeL r).map encInt), .int .i64 (closeC r)]) := by
  subst hu
  have h3 : r.line.length ≤ 4194304 := by omega
  cases hB : ringB r
  · have hv : closeR r = r := by simp [closeR, closeB, hB]
    have hl : closeL r = [] := by simp [closeL, closeB, hB]
    have hc : closeC r = 1 := by simp [closeC, hB]
    rw [hv, hc, hl]
    clear hv hc hl
    refine sound_body hT Go.Proofs.Try.func25 rfl ?_
    rw [Go.Proofs.Try.results25, Go.Proofs.Try.ntmps25]
    simp only [frame, List.length_cons, List.length_nil, List.replicate, List.cons_append, List.nil_append, Nat.reduceAdd, Nat.reduceSub]
    repeat' (first
    | with_reducible first | refine aw_seq ?_ | refine aw_block ?_ | refine aw_skip ?_ | refine aw_exit ?_
    | with_reducible first | refine aw_ret ?_ | refine thenA_n ?_ | refine thenA_r ?_ | refine thenA_x ?_ | refine blockA_n ?_ | refine blockA_r ?_ | refine blockA_e ?_ | refine blockA_x (by decide) ?_ | refine ends_r ?_ | refine ends_n ?_ | refine ends_rM ?_ | refine ends_nM ?_ | refine aw_reg ?_
    | (with_reducible apply aw_anyT hT (id := 8) [[], [], [1], [1, 2], [0, 1, 2, 3], [0, 1, 2, 3, 4], [0, 1, 2, 3, 4, 5]] 4 [28, 29, 30, 31]
       · simp only [List.take_succ_cons, List.take_zero]; with_reducible rfl
       · simp only [List.drop_succ_cons, List.drop_zero]; with_reducible rfl
       · rfl
       · decide +kernel
       · decide +kernel
       · decide +kernel
       · simp only [go_sem, *])
    | (with_reducible refine aw_any hT ?_ ?_; · decide +kernel)
    | with_reducible refine al_nil ?_
    | (with_reducible apply aw_cond
       · simp only [go_sem, *]; with_reducible rfl
       all_goals (intro h; try simp only [Bool.not_eq_true', Bool.not_eq_false', reduceCtorEq] at h))
    | (with_reducible apply al_call (f := 82)
       · first | exact gchk_none rfl | simp only [go_sem, *]
       · rfl
       · exact Go.Proofs.Try.call82
       · simp only [go_sem, encRing, zeroRing, *]; with_reducible rfl
       · simp only [go_sem, *]
       · first | assumption | ((with_reducible apply c_impl_copyRing) <;> first | assumption | rfl)
       · simp only [go_sem]; with_reducible rfl)
    | (with_reducible apply al_snap (f := 82)
       · first | exact gchk_none rfl | simp only [go_sem, *]
       · rfl
       · exact Go.Proofs.Try.call82
       · simp only [go_sem, encRing, zeroRing, *]; with_reducible rfl
       · simp only [go_sem, encRing, zeroRing, *]; with_reducible rfl
       · first | assumption | ((with_reducible apply c_impl_copyRing) <;> first | assumption | rfl)
       · simp only [go_sem, *]
       · simp only [go_sem]; with_reducible rfl)
    | (with_reducible apply al_call (f := 18)
       · first | exact gchk_none rfl | simp only [go_sem, *]
       · rfl
       · exact Go.Proofs.Try.call18
       · simp only [go_sem, encRing, zeroRing, *]; with_reducible rfl
       · simp only [go_sem, *]
       · first | assumption | ((with_reducible apply c_impl_RingOk) <;> first | assumption | rfl)
       · simp only [go_sem]; with_reducible rfl)
    | (with_reducible apply al_snap (f := 18)
       · first | exact gchk_none rfl | simp only [go_sem, *]
       · rfl
       · exact Go.Proofs.Try.call18
       · simp only [go_sem, encRing, zeroRing, *]; with_reducible rfl
       · simp only [go_sem, encRing, zeroRing, *]; with_reducible rfl
       · first | assumption | ((with_reducible apply c_impl_RingOk) <;> first | assumption | rfl)
       · simp only [go_sem, *]
       · simp only [go_sem]; with_reducible rfl)
    | (with_reducible apply al_call (f := 83)
       · first | exact gchk_none rfl | simp only [go_sem, *]
       · rfl
       · exact Go.Proofs.Try.call83
       · simp only [go_sem, encRing, zeroRing, *]; with_reducible rfl
       · simp only [go_sem, *]
       · first | assumption | ((with_reducible apply c_impl_release) <;> first | assumption | rfl)
       · simp only [go_sem]; with_reducible rfl)
    | (with_reducible apply al_snap (f := 83)
       · first | exact gchk_none rfl | simp only [go_sem, *]
       · rfl
       · exact Go.Proofs.Try.call83
       · simp only [go_sem, encRing, zeroRing, *]; with_reducible rfl
       · simp only [go_sem, encRing, zeroRing, *]; with_reducible rfl
       · first | assumption | ((with_reducible apply c_impl_release) <;> first | assumption | rfl)
       · simp only [go_sem, *]
       · simp only [go_sem]; with_reducible rfl)
    | (with_reducible apply al_call (f := 84)
       · first | exact gchk_none rfl | simp only [go_sem, *]
       · rfl
       · exact Go.Proofs.Try.call84
       · simp only [go_sem, encRing, zeroRing, *]; with_reducible rfl
       · simp only [go_sem, *]
       · first | assumption | ((with_reducible apply c_slices_Clone_int_int) <;> first | assumption | rfl)
       · simp only [go_sem]; with_reducible rfl)
    | (with_reducible apply al_snap (f := 84)
       · first | exact gchk_none rfl | simp only [go_sem, *]
       · rfl
       · exact Go.Proofs.Try.call84
       · simp only [go_sem, encRing, zeroRing, *]; with_reducible rfl
       · simp only [go_sem, encRing, zeroRing, *]; with_reducible rfl
       · first | assumption | ((with_reducible apply c_slices_Clone_int_int) <;> first | assumption | rfl)
       · simp only [go_sem, *]
       · simp only [go_sem]; with_reducible rfl)
    | (with_reducible apply al_movetup
       · exact gchk_none rfl
       · rfl
       · simp only [go_sem, *]; with_reducible rfl
       · simp only [go_sem]; with_reducible rfl)
    | (with_reducible apply al_anil hT
       · exact gchk_none rfl
       · rfl
       · simp only [go_sem]; first | done | with_reducible rfl
       · simp only [go_sem]; with_reducible rfl)
    | with_reducible refine ad_nil ?_
    | (with_reducible apply ad_q hT
       · first | exact gchk_none rfl | simp only [go_sem, *]
       · simp only [go_sem, encRing, zeroRing, *]; first | done | with_reducible rfl
       · simp only [go_sem, *]
       · simp only [go_sem]; with_reducible rfl)
    | (with_reducible apply ad_assign
       · first | exact gchk_none rfl | simp only [go_sem, *]
       · rfl
       · simp only [go_sem, encRing, zeroRing, *]; with_reducible rfl
       · simp only [go_sem, *]
       · simp only [go_sem]; with_reducible rfl)
    | (with_reducible apply ad_skip
       · simp only [go_sem, *]
       · simp only [go_sem]; with_reducible rfl)
    | (with_reducible apply ad_call (f := 84)
       · first | exact gchk_none rfl | simp only [go_sem, *]
       · rfl
       · exact Go.Proofs.Try.call84
       · simp only [go_sem, encRing, zeroRing, *]; with_reducible rfl
       · simp only [go_sem, *]
       · first | assumption | ((with_reducible apply c_slices_Clone_int_int) <;> first | assumption | rfl)
       · simp only [go_sem, *]
       · simp only [go_sem]; with_reducible rfl)
    | (with_reducible apply ad_snap (f := 84)
       · first | exact gchk_none rfl | simp only [go_sem, *]
       · rfl
       · exact Go.Proofs.Try.call84
       · simp only [go_sem, encRing, zeroRing, *]; with_reducible rfl
       · simp only [go_sem, encRing, zeroRing, *]; with_reducible rfl
       · first | assumption | ((with_reducible apply c_slices_Clone_int_int) <;> first | assumption | rfl)
       · simp only [go_sem, *]
       · simp only [go_sem, *]
       · simp only [go_sem]; with_reducible rfl)
    | ((with_reducible first | apply ad_caseT rfl | apply ad_caseF rfl)
       · simp only [go_sem, *]; with_reducible rfl
       · simp only [go_sem]; with_reducible rfl
       all_goals (intro h; try simp only [Bool.not_eq_true', Bool.not_eq_false'] at h)
       fail_if_success (with_reducible have hh : (true = true ∨ false = false) := by first | exact Or.inl h | exact Or.inr h))
    | (with_reducible apply al_s hT false
       · first | exact gchk_none rfl | simp only [go_sem, *]
       · simp only [go_sem, encRing, zeroRing, *]; first | done | with_reducible rfl)
    | (with_reducible apply al_q hT
       · first | exact gchk_none rfl | simp only [go_sem, *]
       · simp only [go_sem, encRing, zeroRing, *]; first | done | with_reducible rfl
       · simp only [go_sem]; with_reducible rfl)
    | (with_reducible apply al_skip
       · simp only [go_sem, *]
       · simp only [go_sem]; with_reducible rfl)
    | ((with_reducible first | apply al_caseT rfl | apply al_caseF rfl)
       · simp only [go_sem, *]; with_reducible rfl
       · simp only [go_sem]; with_reducible rfl
       all_goals (intro h; try simp only [Bool.not_eq_true', Bool.not_eq_false'] at h)
       fail_if_success (with_reducible have hh : (true = true ∨ false = false) := by first | exact Or.inl h | exact Or.inr h))
    )
    all_goals ((simp only [go_sem, *]); first | done | rfl)
  refine sound_body hT Go.Proofs.Try.func25 rfl ?_
  rw [Go.Proofs.Try.results25, Go.Proofs.Try.ntmps25]
  simp only [frame, List.length_cons, List.length_nil, List.replicate, List.cons_append, List.nil_append, Nat.reduceAdd, Nat.reduceSub]
  repeat' (first
  | with_reducible first | refine aw_seq ?_ | refine aw_block ?_ | refine aw_skip ?_ | refine aw_exit ?_
  | with_reducible first | refine aw_ret ?_ | refine thenA_n ?_ | refine thenA_r ?_ | refine thenA_x ?_ | refine blockA_n ?_ | refine blockA_r ?_ | refine blockA_e ?_ | refine blockA_x (by decide) ?_ | refine ends_r ?_ | refine ends_n ?_ | refine ends_rM ?_ | refine ends_nM ?_ | refine aw_reg ?_
  | (with_reducible apply aw_anyT hT (id := 8) [[], [], [1], [1, 2], [0, 1, 2, 3], [0, 1, 2, 3, 4], [0, 1, 2, 3, 4, 5]] 4 [28, 29, 30, 31]
     · simp only [List.take_succ_cons, List.take_zero]; with_reducible rfl
     · simp only [List.drop_succ_cons, List.drop_zero]; with_reducible rfl
     · rfl
     · decide +kernel
     · decide +kernel
     · decide +kernel
     · simp only [go_sem, *])
  | (with_reducible refine aw_any hT ?_ ?_; · decide +kernel)
  | with_reducible refine al_nil ?_
  | (with_reducible apply aw_cond
     · simp only [go_sem, *]; with_reducible rfl
     all_goals (intro h; try simp only [Bool.not_eq_true', Bool.not_eq_false', reduceCtorEq] at h))
  | (with_reducible apply al_call (f := 82)
     · first | exact gchk_none rfl | simp only [go_sem, *]
     · rfl
     · exact Go.Proofs.Try.call82
     · simp only [go_sem, encRing, zeroRing, *]; with_reducible rfl
     · simp only [go_sem, *]
     · first | assumption | ((with_reducible apply c_impl_copyRing) <;> first | assumption | rfl)
     · simp only [go_sem]; with_reducible rfl)
  | (with_reducible apply al_snap (f := 82)
     · first | exact gchk_none rfl | simp only [go_sem, *]
     · rfl
     · exact Go.Proofs.Try.call82
     · simp only [go_sem, encRing, zeroRing, *]; with_reducible rfl
     · simp only [go_sem, encRing, zeroRing, *]; with_reducible rfl
     · first | assumption | ((with_reducible apply c_impl_copyRing) <;> first | assumption | rfl)
     · simp only [go_sem, *]
     · simp only [go_sem]; with_reducible rfl)
  | (with_reducible apply al_call (f := 18)
     · first | exact gchk_none rfl | simp only [go_sem, *]
     · rfl
     · exact Go.Proofs.Try.call18
     · simp only [go_sem, encRing, zeroRing, *]; with_reducible rfl
     · simp only [go_sem, *]
     · first | assumption | ((with_reducible apply c_impl_RingOk) <;> first | assumption | rfl)
     · simp only [go_sem]; with_reducible rfl)
  | (with_reducible apply al_snap (f := 18)
     · first | exact gchk_none rfl | simp only [go_sem, *]
     · rfl
     · exact Go.Proofs.Try.call18
     · simp only [go_sem, encRing, zeroRing, *]; with_reducible rfl
     · simp only [go_sem, encRing, zeroRing, *]; with_reducible rfl
     · first | assumption | ((with_reducible apply c_impl_RingOk) <;> first | assumption | rfl)
     · simp only [go_sem, *]
     · simp only [go_sem]; with_reducible rfl)
  | (with_reducible apply al_call (f := 83)
     · first | exact gchk_none rfl | simp only [go_sem, *]
     · rfl
     · exact Go.Proofs.Try.call83
     · simp only [go_sem, encRing, zeroRing, *]; with_reducible rfl
     · simp only [go_sem, *]
     · first | assumption | ((with_reducible apply c_impl_release) <;> first | assumption | rfl)
     · simp only [go_sem]; with_reducible rfl)
  | (with_reducible apply al_snap (f := 83)
     · first | exact gchk_none rfl | simp only [go_sem, *]
     · rfl
     · exact Go.Proofs.Try.call83
     · simp only [go_sem, encRing, zeroRing, *]; with_reducible rfl
     · simp only [go_sem, encRing, zeroRing, *]; with_reducible rfl
     · first | assumption | ((with_reducible apply c_impl_release) <;> first | assumption | rfl)
     · simp only [go_sem, *]
     · simp only [go_sem]; with_reducible rfl)
  | (with_reducible apply al_call (f := 84)
     · first | exact gchk_none rfl | simp only [go_sem, *]
     · rfl
     · exact Go.Proofs.Try.call84
     · simp only [go_sem, encRing, zeroRing, *]; with_reducible rfl
     · simp only [go_sem, *]
     · first | assumption | ((with_reducible apply c_slices_Clone_int_int) <;> first | assumption | rfl)
     · simp only [go_sem]; with_reducible rfl)
  | (with_reducible apply al_snap (f := 84)
     · first | exact gchk_none rfl | simp only [go_sem, *]
     · rfl
     · exact Go.Proofs.Try.call84
     · simp only [go_sem, encRing, zeroRing, *]; with_reducible rfl
     · simp only [go_sem, encRing, zeroRing, *]; with_reducible rfl
     · first | assumption | ((with_reducible apply c_slices_Clone_int_int) <;> first | assumption | rfl)
     · simp only [go_sem, *]
     · simp only [go_sem]; with_reducible rfl)
  | (with_reducible apply al_movetup
     · exact gchk_none rfl
     · rfl
     · simp only [go_sem, *]; with_reducible rfl
     · simp only [go_sem]; with_reducible rfl)
  | (with_reducible apply al_anil hT
     · exact gchk_none rfl
     · rfl
     · simp only [go_sem]; first | done | with_reducible rfl
     · simp only [go_sem]; with_reducible rfl)
  | with_reducible refine ad_nil ?_
  | (with_reducible apply ad_q hT
     · first | exact gchk_none rfl | simp only [go_sem, *]
     · simp only [go_sem, encRing, zeroRing, *]; first | done | with_reducible rfl
     · simp only [go_sem, *]
     · simp only [go_sem]; with_reducible rfl)
  | (with_reducible apply ad_assign
     · first | exact gchk_none rfl | simp only [go_sem, *]
     · rfl
     · simp only [go_sem, encRing, zeroRing, *]; with_reducible rfl
     · simp only [go_sem, *]
     · simp only [go_sem]; with_reducible rfl)
  | (with_reducible apply ad_skip
     · simp only [go_sem, *]
     · simp only [go_sem]; with_reducible rfl)
  | (with_reducible apply ad_call (f := 84)
     · first | exact gchk_none rfl | simp only [go_sem, *]
     · rfl
     · exact Go.Proofs.Try.call84
     · simp only [go_sem, encRing, zeroRing, *]; with_reducible rfl
     · simp only [go_sem, *]
     · first | assumption | ((with_reducible apply c_slices_Clone_int_int) <;> first | assumption | rfl)
     · simp only [go_sem, *]
     · simp only [go_sem]; with_reducible rfl)
  | (with_reducible apply ad_snap (f := 84)
     · first | exact gchk_none rfl | simp only [go_sem, *]
     · rfl
     · exact Go.Proofs.Try.call84
     · simp only [go_sem, encRing, zeroRing, *]; with_reducible rfl
     · simp only [go_sem, encRing, zeroRing, *]; with_reducible rfl
     · first | assumption | ((with_reducible apply c_slices_Clone_int_int) <;> first | assumption | rfl)
     · simp only [go_sem, *]
     · simp only [go_sem, *]
     · simp only [go_sem]; with_reducible rfl)
  | ((with_reducible first | apply ad_caseT rfl | apply ad_caseF rfl)
     · simp only [go_sem, *]; with_reducible rfl
     · simp only [go_sem]; with_reducible rfl
     all_goals (intro h; try simp only [Bool.not_eq_true', Bool.not_eq_false'] at h)
     fail_if_success (with_reducible have hh : (true = true ∨ false = false) := by first | exact Or.inl h | exact Or.inr h))
  | (with_reducible apply al_s hT false
     · first | exact gchk_none rfl | simp only [go_sem, *]
     · simp only [go_sem, encRing, zeroRing, *]; first | done | with_reducible rfl)
  | (with_reducible apply al_q hT
     · first | exact gchk_none rfl | simp only [go_sem, *]
     · simp only [go_sem, encRing, zeroRing, *]; first | done | with_reducible rfl
     · simp only [go_sem]; with_reducible rfl)
  | (with_reducible apply al_skip
     · simp only [go_sem, *]
     · simp only [go_sem]; with_reducible rfl)
  | ((with_reducible first | apply al_caseT rfl | apply al_caseF rfl)
     · simp only [go_sem, *]; with_reducible rfl
     · simp only [go_sem]; with_reducible rfl
     all_goals (intro h; try simp only [Bool.not_eq_true', Bool.not_eq_false'] at h)
     fail_if_success (with_reducible have hh : (true = true ∨ false = false) := by first | exact Or.inl h | exact Or.inr h))
  )
  all_goals (
    simp only [closeR, closeL, closeC, closeB, hB, h, Bool.not_true, Bool.not_false, Bool.and_true, Bool.and_false, if_true, Bool.false_eq_true, if_false, encRing]
    (simp only [go_sem, *])
    first | done | rfl)

theorem close_w (r : RingV) : wRing (closeR r) ≤ wRing r := by
  unfold closeR
  split
  · simp only [wRing, wIntS, List.length_append, sumL_append, List.length_nil]
    have : sumL wInt [] = 0 := rfl
    omega
  · exact Nat.le_refl _
theorem close_l (r : RingV) : wIntS (closeL r) ≤ wRing r := by
  unfold closeL
  split
  · simp only [wRing]; omega
  · simp [wIntS, sumL]
end Go.Proofs.Ytcgkejggkenecaa
