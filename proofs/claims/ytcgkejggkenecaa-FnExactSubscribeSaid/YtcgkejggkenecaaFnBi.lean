/- Contracts: Subscribe, of the program. -/
import Derived.Test.YtcgkejggkenecaaFnUi
import Derived.Test.YtcgkejggkenecaaFnD
import Derived.Test.YtcgkejggkenecaaBvAt
namespace Go.Proofs.Ytcgkejggkenecaa
open Go Go.RowKit Go.Bv
set_option linter.unusedSimpArgs false
set_option linter.unusedVariables false
set_option maxRecDepth 4000
set_option maxHeartbeats 1000000
-- KEPT

def subFull (r : RingV) : Bool := decide (r.subs.length ≥ 12) || decide (r.next ≥ 1000000000)
def subB1 (r : RingV) (f : List TermV) : Bool := ringB r && filterB f && !r.closed && !subFull r
def subR (r : RingV) (f : List TermV) (back : Bool) : RingV := if subB1 r f then { r with subs := r.subs ++ [⟨r.next, if back then oldestI r else r.sent, if back then oldestI r else r.sent, 0, 0, 0, f⟩], next := r.next + 1 } else r
def subN (r : RingV) (f : List TermV) : Int := if subB1 r f then r.next else -1
def subC (r : RingV) (f : List TermV) : Int := if ringB r && filterB f then (if r.closed then 6 else if subFull r then 2 else 0) else 1
set_option maxHeartbeats 4000000 in
theorem c_impl_Subscribe (r : RingV) (f : List TermV) (back : Bool) {u : AV} (hu : u = encRing false r) (hr : okRing r) (hw : wRing r ≤ 4194304) (h1 : r.line.length ≤ 1048576) (h2 : r.grants.length ≤ 1048576) (hf : okTermS f) (hf2 : f.length ≤ 4194304) :
    Sound P 34 [u, .lst false 3 (f.map encT), .bool back] (.tup [encRing true (subR r f back), .int .i64 (subN r f), .int .i64 (subC r f)]) := by
  subst hu
  have hfl : f.length < 4611686018427387904 := hf.1
  have hft : ∀ t ∈ f, t.fits := hf.2
  cases hB : ringB r
  · have hv : subR r f back = r := by simp [subR, subB1, hB]
    have hn : subN r f = -1 := by simp [subN, subB1, hB]
    have hc : subC r f = 1 := by simp [subC, hB]
    rw [hv, hn, hc]
    clear hv hn hc
    refine sound_body hT Go.Proofs.Try.func34 rfl ?_
    rw [Go.Proofs.Try.results34, Go.Proofs.Try.ntmps34]
    simp only [frame, List.length_cons, List.length_nil, List.replicate, List.cons_append, List.nil_append, Nat.reduceAdd, Nat.reduceSub]
    repeat' (first
    | with_reducible first | refine aw_seq ?_ | refine aw_block ?_ | refine aw_skip ?_ | refine aw_exit ?_
    | with_reducible first | refine aw_ret ?_ | refine thenA_n ?_ | refine thenA_r ?_ | refine thenA_x ?_ | refine blockA_n ?_ | refine blockA_r ?_ | refine blockA_e ?_ | refine blockA_x (by decide) ?_ | refine ends_r ?_ | refine ends_n ?_ | refine ends_rM ?_ | refine ends_nM ?_ | refine aw_reg ?_
    | with_reducible refine al_nil ?_
    | (with_reducible apply aw_cond
       · simp only [go_sem, *]; with_reducible rfl
       all_goals (intro h; try simp only [Bool.not_eq_true', Bool.not_eq_false', reduceCtorEq] at h))
    | (with_reducible apply al_call (f := 82)
       · first | exact gchk_none rfl | simp only [go_sem, *]
       · rfl
       · exact Go.Proofs.Try.call82
       · simp only [go_sem, encRing, zeroRing, *]; with_reducible rfl
       · simp only [go_sem, *]
       · first | assumption | ((with_reducible apply c_impl_copyRing) <;> first | assumption | rfl | exact Kept.out (by assumption))
       · simp only [go_sem]; with_reducible rfl)
    | (with_reducible apply al_call (f := 18)
       · first | exact gchk_none rfl | simp only [go_sem, *]
       · rfl
       · exact Go.Proofs.Try.call18
       · simp only [go_sem, encRing, zeroRing, *]; with_reducible rfl
       · simp only [go_sem, *]
       · first | assumption | ((with_reducible apply c_impl_RingOk) <;> first | assumption | rfl | exact Kept.out (by assumption))
       · simp only [go_sem]; with_reducible rfl)
    | (with_reducible apply al_s hT true
       · first | exact gchk_none rfl | simp only [go_sem, *]
       · simp only [go_sem, encRing, zeroRing, *]; first | done | with_reducible rfl)
    | (with_reducible apply al_skip
       · simp only [go_sem, *]
       · simp only [go_sem]; with_reducible rfl)
    )
    all_goals ((simp only [go_sem, *]); first | done | rfl)
  cases hF : filterB f
  · have hv : subR r f back = r := by simp [subR, subB1, hF]
    have hn : subN r f = -1 := by simp [subN, subB1, hF]
    have hc : subC r f = 1 := by simp [subC, hF]
    rw [hv, hn, hc]
    clear hv hn hc
    refine sound_body hT Go.Proofs.Try.func34 rfl ?_
    rw [Go.Proofs.Try.results34, Go.Proofs.Try.ntmps34]
    simp only [frame, List.length_cons, List.length_nil, List.replicate, List.cons_append, List.nil_append, Nat.reduceAdd, Nat.reduceSub]
    repeat' (first
    | with_reducible first | refine aw_seq ?_ | refine aw_block ?_ | refine aw_skip ?_ | refine aw_exit ?_
    | with_reducible first | refine aw_ret ?_ | refine thenA_n ?_ | refine thenA_r ?_ | refine thenA_x ?_ | refine blockA_n ?_ | refine blockA_r ?_ | refine blockA_e ?_ | refine blockA_x (by decide) ?_ | refine ends_r ?_ | refine ends_n ?_ | refine ends_rM ?_ | refine ends_nM ?_ | refine aw_reg ?_
    | with_reducible refine al_nil ?_
    | (with_reducible apply aw_cond
       · simp only [go_sem, *]; with_reducible rfl
       all_goals (intro h; try simp only [Bool.not_eq_true', Bool.not_eq_false', reduceCtorEq] at h))
    | (with_reducible apply al_call (f := 82)
       · first | exact gchk_none rfl | simp only [go_sem, *]
       · rfl
       · exact Go.Proofs.Try.call82
       · simp only [go_sem, encRing, zeroRing, *]; with_reducible rfl
       · simp only [go_sem, *]
       · first | assumption | ((with_reducible apply c_impl_copyRing) <;> first | assumption | rfl | exact Kept.out (by assumption))
       · simp only [go_sem]; with_reducible rfl)
    | (with_reducible apply al_call (f := 18)
       · first | exact gchk_none rfl | simp only [go_sem, *]
       · rfl
       · exact Go.Proofs.Try.call18
       · simp only [go_sem, encRing, zeroRing, *]; with_reducible rfl
       · simp only [go_sem, *]
       · first | assumption | ((with_reducible apply c_impl_RingOk) <;> first | assumption | rfl | exact Kept.out (by assumption))
       · simp only [go_sem]; with_reducible rfl)
    | (with_reducible apply al_call (f := 92)
       · first | exact gchk_none rfl | simp only [go_sem, *]
       · rfl
       · exact Go.Proofs.Try.call92
       · simp only [go_sem, encRing, zeroRing, *]; with_reducible rfl
       · simp only [go_sem, *]
       · first | assumption | ((with_reducible apply c_impl_FilterOk) <;> first | assumption | rfl | exact Kept.out (by assumption))
       · simp only [go_sem]; with_reducible rfl)
    | (with_reducible apply al_s hT true
       · first | exact gchk_none rfl | simp only [go_sem, *]
       · simp only [go_sem, encRing, zeroRing, *]; first | done | with_reducible rfl)
    )
    all_goals ((simp only [go_sem, *]); first | done | rfl)
  have hI := ringIs hB
  have := hI.cap1; have := hI.cap2; have := hI.sent1; have := hI.sent2; have := hI.next1; have := hI.next2; have := hI.subs
  have ho1 : -9223372036854775808 ≤ r.sent - r.cap := by omega
  have ho2 : r.sent - r.cap ≤ 9223372036854775807 := by omega
  have hwn : IntKind.i64.wrap (r.next + 1) = r.next + 1 := by rw [wrap_small] <;> omega
  cases hcl : r.closed
  rotate_left
  · have hk : Kept (AV.agg [.int .i64 r.cap, .int .i64 r.sent, .lst false 3 (r.items.map (encMsg false)), .int .i64 r.next, .lst false 7 (r.subs.map (encSub false)), .lst false 1 (r.line.map encInt), .lst false 1 (r.grants.map encInt), .bool true] = encRing false r) := ⟨by rw [encRing, hcl]⟩
    have hv : subR r f back = r := by simp [subR, subB1, hcl]
    have hn : subN r f = -1 := by simp [subN, subB1, hcl]
    have hc : subC r f = 6 := by simp [subC, hB, hF, hcl]
    rw [hv, hn, hc]
    clear hv hn hc
    refine sound_body hT Go.Proofs.Try.func34 rfl ?_
    rw [Go.Proofs.Try.results34, Go.Proofs.Try.ntmps34]
    simp only [frame, List.length_cons, List.length_nil, List.replicate, List.cons_append, List.nil_append, Nat.reduceAdd, Nat.reduceSub]
    repeat' (first
    | with_reducible first | refine aw_seq ?_ | refine aw_block ?_ | refine aw_skip ?_ | refine aw_exit ?_
    | with_reducible first | refine aw_ret ?_ | refine thenA_n ?_ | refine thenA_r ?_ | refine thenA_x ?_ | refine blockA_n ?_ | refine blockA_r ?_ | refine blockA_e ?_ | refine blockA_x (by decide) ?_ | refine ends_r ?_ | refine ends_n ?_ | refine ends_rM ?_ | refine ends_nM ?_ | refine aw_reg ?_
    | with_reducible refine al_nil ?_
    | (with_reducible apply aw_cond
       · simp only [go_sem, *]; with_reducible rfl
       all_goals (intro h; try simp only [Bool.not_eq_true', Bool.not_eq_false', reduceCtorEq] at h))
    | (with_reducible apply al_call (f := 82)
       · first | exact gchk_none rfl | simp only [go_sem, *]
       · rfl
       · exact Go.Proofs.Try.call82
       · simp only [go_sem, encRing, zeroRing, *]; with_reducible rfl
       · simp only [go_sem, *]
       · first | assumption | ((with_reducible apply c_impl_copyRing) <;> first | assumption | rfl | exact Kept.out (by assumption))
       · simp only [go_sem]; with_reducible rfl)
    | (with_reducible apply al_call (f := 18)
       · first | exact gchk_none rfl | simp only [go_sem, *]
       · rfl
       · exact Go.Proofs.Try.call18
       · simp only [go_sem, encRing, zeroRing, *]; with_reducible rfl
       · simp only [go_sem, *]
       · first | assumption | ((with_reducible apply c_impl_RingOk) <;> first | assumption | rfl | exact Kept.out (by assumption))
       · simp only [go_sem]; with_reducible rfl)
    | (with_reducible apply al_call (f := 92)
       · first | exact gchk_none rfl | simp only [go_sem, *]
       · rfl
       · exact Go.Proofs.Try.call92
       · simp only [go_sem, encRing, zeroRing, *]; with_reducible rfl
       · simp only [go_sem, *]
       · first | assumption | ((with_reducible apply c_impl_FilterOk) <;> first | assumption | rfl | exact Kept.out (by assumption))
       · simp only [go_sem]; with_reducible rfl)
    | (with_reducible apply al_s hT true
       · first | exact gchk_none rfl | simp only [go_sem, *]
       · simp only [go_sem, encRing, zeroRing, *]; first | done | with_reducible rfl)
    )
    all_goals ((simp only [go_sem, *]); simp only [encRing, hcl]; first | done | rfl)
  have hk : Kept (AV.agg [.int .i64 r.cap, .int .i64 r.sent, .lst false 3 (r.items.map (encMsg false)), .int .i64 r.next, .lst false 7 (r.subs.map (encSub false)), .lst false 1 (r.line.map encInt), .lst false 1 (r.grants.map encInt), .bool false] = encRing false r) := ⟨by rw [encRing, hcl]⟩
  rcases (by omega : r.subs.length = 12 ∨ (r.subs.length < 12 ∧ r.next = 1000000000) ∨ (r.subs.length < 12 ∧ r.next < 1000000000)) with h12 | h12 | h12
  · have hE : ((r.subs.length : Int) == 12) = true := by rw [h12]; rfl
    have hE2 : decide ((r.subs.length : Int) ≥ 12) = true := decide_eq_true (by omega)
    have hv : subR r f back = r := by simp [subR, subB1, subFull, h12]
    have hn : subN r f = -1 := by simp [subN, subB1, subFull, h12]
    have hc : subC r f = 2 := by simp [subC, hB, hF, hcl, subFull, h12]
    rw [hv, hn, hc]
    clear hv hn hc h12
    refine sound_body hT Go.Proofs.Try.func34 rfl ?_
    rw [Go.Proofs.Try.results34, Go.Proofs.Try.ntmps34]
    simp only [frame, List.length_cons, List.length_nil, List.replicate, List.cons_append, List.nil_append, Nat.reduceAdd, Nat.reduceSub]
    repeat' (first
    | with_reducible first | refine aw_seq ?_ | refine aw_block ?_ | refine aw_skip ?_ | refine aw_exit ?_
    | with_reducible first | refine aw_ret ?_ | refine thenA_n ?_ | refine thenA_r ?_ | refine thenA_x ?_ | refine blockA_n ?_ | refine blockA_r ?_ | refine blockA_e ?_ | refine blockA_x (by decide) ?_ | refine ends_r ?_ | refine ends_n ?_ | refine ends_rM ?_ | refine ends_nM ?_ | refine aw_reg ?_
    | with_reducible refine al_nil ?_
    | (with_reducible apply aw_cond
       · simp only [go_sem, *]; with_reducible rfl
       all_goals (intro h; try simp only [Bool.not_eq_true', Bool.not_eq_false', reduceCtorEq] at h))
    | (with_reducible apply al_call (f := 82)
       · first | exact gchk_none rfl | simp only [go_sem, *]
       · rfl
       · exact Go.Proofs.Try.call82
       · simp only [go_sem, encRing, zeroRing, *]; with_reducible rfl
       · simp only [go_sem, *]
       · first | assumption | ((with_reducible apply c_impl_copyRing) <;> first | assumption | rfl | exact Kept.out (by assumption))
       · simp only [go_sem]; with_reducible rfl)
    | (with_reducible apply al_call (f := 18)
       · first | exact gchk_none rfl | simp only [go_sem, *]
       · rfl
       · exact Go.Proofs.Try.call18
       · simp only [go_sem, encRing, zeroRing, *]; with_reducible rfl
       · simp only [go_sem, *]
       · first | assumption | ((with_reducible apply c_impl_RingOk) <;> first | assumption | rfl | exact Kept.out (by assumption))
       · simp only [go_sem]; with_reducible rfl)
    | (with_reducible apply al_call (f := 92)
       · first | exact gchk_none rfl | simp only [go_sem, *]
       · rfl
       · exact Go.Proofs.Try.call92
       · simp only [go_sem, encRing, zeroRing, *]; with_reducible rfl
       · simp only [go_sem, *]
       · first | assumption | ((with_reducible apply c_impl_FilterOk) <;> first | assumption | rfl | exact Kept.out (by assumption))
       · simp only [go_sem]; with_reducible rfl)
    | (with_reducible apply al_s hT true
       · first | exact gchk_none rfl | simp only [go_sem, *]
       · simp only [go_sem, encRing, zeroRing, *]; first | done | with_reducible rfl)
    | (with_reducible apply al_skip
       · simp only [go_sem, *]
       · simp only [go_sem]; with_reducible rfl)
    )
    all_goals ((simp only [go_sem, *]); simp only [encRing, hcl]; first | done | rfl)
  · obtain ⟨h12, h13⟩ := h12
    have hE : ((r.subs.length : Int) == 12) = false := by rw [beq_eq_false_iff_ne]; omega
    have hE2 : decide ((r.subs.length : Int) ≥ 12) = false := decide_eq_false (by omega)
    have hE3 : (r.next == 1000000000) = true := by rw [h13]; rfl
    have hE4 : decide (r.next ≥ 1000000000) = true := decide_eq_true (by omega)
    have hv : subR r f back = r := by simp [subR, subB1, subFull, h13]
    have hn : subN r f = -1 := by simp [subN, subB1, subFull, h13]
    have hc : subC r f = 2 := by simp [subC, hB, hF, hcl, subFull, h13]
    rw [hv, hn, hc]
    clear hv hn hc h12 h13
    refine sound_body hT Go.Proofs.Try.func34 rfl ?_
    rw [Go.Proofs.Try.results34, Go.Proofs.Try.ntmps34]
    simp only [frame, List.length_cons, List.length_nil, List.replicate, List.cons_append, List.nil_append, Nat.reduceAdd, Nat.reduceSub]
    repeat' (first
    | with_reducible first | refine aw_seq ?_ | refine aw_block ?_ | refine aw_skip ?_ | refine aw_exit ?_
    | with_reducible first | refine aw_ret ?_ | refine thenA_n ?_ | refine thenA_r ?_ | refine thenA_x ?_ | refine blockA_n ?_ | refine blockA_r ?_ | refine blockA_e ?_ | refine blockA_x (by decide) ?_ | refine ends_r ?_ | refine ends_n ?_ | refine ends_rM ?_ | refine ends_nM ?_ | refine aw_reg ?_
    | with_reducible refine al_nil ?_
    | (with_reducible apply aw_cond
       · simp only [go_sem, *]; with_reducible rfl
       all_goals (intro h; try simp only [Bool.not_eq_true', Bool.not_eq_false', reduceCtorEq] at h))
    | (with_reducible apply al_call (f := 82)
       · first | exact gchk_none rfl | simp only [go_sem, *]
       · rfl
       · exact Go.Proofs.Try.call82
       · simp only [go_sem, encRing, zeroRing, *]; with_reducible rfl
       · simp only [go_sem, *]
       · first | assumption | ((with_reducible apply c_impl_copyRing) <;> first | assumption | rfl | exact Kept.out (by assumption))
       · simp only [go_sem]; with_reducible rfl)
    | (with_reducible apply al_call (f := 18)
       · first | exact gchk_none rfl | simp only [go_sem, *]
       · rfl
       · exact Go.Proofs.Try.call18
       · simp only [go_sem, encRing, zeroRing, *]; with_reducible rfl
       · simp only [go_sem, *]
       · first | assumption | ((with_reducible apply c_impl_RingOk) <;> first | assumption | rfl | exact Kept.out (by assumption))
       · simp only [go_sem]; with_reducible rfl)
    | (with_reducible apply al_call (f := 92)
       · first | exact gchk_none rfl | simp only [go_sem, *]
       · rfl
       · exact Go.Proofs.Try.call92
       · simp only [go_sem, encRing, zeroRing, *]; with_reducible rfl
       · simp only [go_sem, *]
       · first | assumption | ((with_reducible apply c_impl_FilterOk) <;> first | assumption | rfl | exact Kept.out (by assumption))
       · simp only [go_sem]; with_reducible rfl)
    | (with_reducible apply al_s hT true
       · first | exact gchk_none rfl | simp only [go_sem, *]
       · simp only [go_sem, encRing, zeroRing, *]; first | done | with_reducible rfl)
    )
    all_goals ((simp only [go_sem, *]); simp only [encRing, hcl]; first | done | rfl)
  · obtain ⟨h12, h13⟩ := h12
    have hE : ((r.subs.length : Int) == 12) = false := by rw [beq_eq_false_iff_ne]; omega
    have hE2 : decide ((r.subs.length : Int) ≥ 12) = false := decide_eq_false (by omega)
    have hE3 : (r.next == 1000000000) = false := by rw [beq_eq_false_iff_ne]; omega
    have hE4 : decide (r.next ≥ 1000000000) = false := decide_eq_false (by omega)
    have hX : subB1 r f = true := by simp only [subB1, subFull, hB, hF, hcl, Bool.and_true, Bool.not_false, Bool.true_and]; simp; omega
    have hX2 : subFull r = false := by simp only [subFull]; simp; omega
    have hv : ∀ at_, (if back then oldestI r else r.sent) = at_ → subR r f back = { r with subs := r.subs ++ [⟨r.next, at_, at_, 0, 0, 0, f⟩], next := r.next + 1 } := by intro at_ e; simp only [subR, hX, if_true, e]
    have hn : subN r f = r.next := by simp only [subN, hX, if_true]
    have hc : subC r f = 0 := by simp [subC, hB, hF, hcl, hX2]
    rw [hn, hc]
    clear hn hc hX hX2 hI
    cases back
    · rw [hv r.sent rfl]
      clear hv
      refine sound_body hT Go.Proofs.Try.func34 rfl ?_
      rw [Go.Proofs.Try.results34, Go.Proofs.Try.ntmps34]
      simp only [frame, List.length_cons, List.length_nil, List.replicate, List.cons_append, List.nil_append, Nat.reduceAdd, Nat.reduceSub]
      repeat' (first
      | with_reducible first | refine aw_seq ?_ | refine aw_block ?_ | refine aw_skip ?_ | refine aw_exit ?_
      | with_reducible first | refine aw_ret ?_ | refine thenA_n ?_ | refine thenA_r ?_ | refine thenA_x ?_ | refine blockA_n ?_ | refine blockA_r ?_ | refine blockA_e ?_ | refine blockA_x (by decide) ?_ | refine ends_r ?_ | refine ends_n ?_ | refine ends_rM ?_ | refine ends_nM ?_ | refine aw_reg ?_
      | (with_reducible apply aw_anyW (id := 11) [[], [0], [], [2], [], [], [], [6], [2, 3, 4, 5, 6, 7], [2, 3, 4, 5, 6, 7, 8], [0, 1, 2, 3, 4, 5, 6, 7, 8, 9], [0, 1, 2, 3, 4, 5, 6, 7, 8, 9, 10], [0, 1, 2, 3, 4, 5, 6, 7, 8, 9, 10, 11]] [[(43, _)], [(44, _)], [(45, _)], [(46, _)], [(47, _)], [(48, _)], [(49, _)], [(50, _)], [(51, _), (50, _)], [(52, _), (51, _)], [(53, _), (9, _), (44, _), (52, _)], [(54, _)], [(9, _), (53, _)]] hT
         · decide +kernel
         · skip
           with_reducible refine steps_cons2 [1, 10, 11, 12] (by decide +kernel) (fun D hk hd hf => ?_) ?_
           · try simp only [go_sem, allT, Option.getD_some] at hd
             try simp only [go_sem, allF] at hf
             simp only [fillW, putIfs, putIf, cond_true, also, Nat.reduceBEq, cond_false, Nat.reduceAdd, hd, hk, hf]
             exact as_q hT (gchk_none rfl) (by simp only [go_sem, encRing, zeroRing, *]; with_reducible rfl) (by simp only [go_sem]; with_reducible rfl)
           with_reducible refine steps_cons2 [10, 11, 12] (by decide +kernel) (fun D hk hd hf => ?_) ?_
           · try simp only [go_sem, allT, Option.getD_some] at hd
             try simp only [go_sem, allF] at hf
             simp only [fillW, putIfs, putIf, cond_true, also, Nat.reduceBEq, cond_false, Nat.reduceAdd, hd, hk, hf]
             exact as_q hT (gchk_none rfl) (by simp only [go_sem, encRing, zeroRing, *]; with_reducible rfl) (by simp only [go_sem]; with_reducible rfl)
           with_reducible refine steps_cons2 [3, 8, 9, 10, 11, 12] (by decide +kernel) (fun D hk hd hf => ?_) ?_
           · try simp only [go_sem, allT, Option.getD_some] at hd
             try simp only [go_sem, allF] at hf
             simp only [fillW, putIfs, putIf, cond_true, also, Nat.reduceBEq, cond_false, Nat.reduceAdd, hd, hk, hf]
             exact as_q hT (gchk_none rfl) (by simp only [go_sem, encRing, zeroRing, *]; with_reducible rfl) (by simp only [go_sem]; with_reducible rfl)
           with_reducible refine steps_cons2 [8, 9, 10, 11, 12] (by decide +kernel) (fun D hk hd hf => ?_) ?_
           · try simp only [go_sem, allT, Option.getD_some] at hd
             try simp only [go_sem, allF] at hf
             simp only [fillW, putIfs, putIf, cond_true, also, Nat.reduceBEq, cond_false, Nat.reduceAdd, hd, hk, hf]
             exact as_q hT (gchk_none rfl) (by simp only [go_sem, encRing, zeroRing, *]; with_reducible rfl) (by simp only [go_sem]; with_reducible rfl)
           with_reducible refine steps_cons2 [8, 9, 10, 11, 12] (by decide +kernel) (fun D hk hd hf => ?_) ?_
           · try simp only [go_sem, allT, Option.getD_some] at hd
             try simp only [go_sem, allF] at hf
             simp only [fillW, putIfs, putIf, cond_true, also, Nat.reduceBEq, cond_false, Nat.reduceAdd, hd, hk, hf]
             exact as_q hT (gchk_none rfl) (by simp only [go_sem, encRing, zeroRing, *]; with_reducible rfl) (by simp only [go_sem]; with_reducible rfl)
           with_reducible refine steps_cons2 [8, 9, 10, 11, 12] (by decide +kernel) (fun D hk hd hf => ?_) ?_
           · try simp only [go_sem, allT, Option.getD_some] at hd
             try simp only [go_sem, allF] at hf
             simp only [fillW, putIfs, putIf, cond_true, also, Nat.reduceBEq, cond_false, Nat.reduceAdd, hd, hk, hf]
             exact as_q hT (gchk_none rfl) (by simp only [go_sem, encRing, zeroRing, *]; with_reducible rfl) (by simp only [go_sem]; with_reducible rfl)
           with_reducible refine steps_cons2 [7, 8, 9, 10, 11, 12] (by decide +kernel) (fun D hk hd hf => ?_) ?_
           · try simp only [go_sem, allT, Option.getD_some] at hd
             try simp only [go_sem, allF] at hf
             simp only [fillW, putIfs, putIf, cond_true, also, Nat.reduceBEq, cond_false, Nat.reduceAdd, hd, hk, hf]
             exact as_q hT (gchk_none rfl) (by simp only [go_sem, encRing, zeroRing, *]; with_reducible rfl) (by simp only [go_sem]; with_reducible rfl)
           with_reducible refine steps_cons2 [8, 9, 10, 11, 12] (by decide +kernel) (fun D hk hd hf => ?_) ?_
           · try simp only [go_sem, allT, Option.getD_some] at hd
             try simp only [go_sem, allF] at hf
             simp only [fillW, putIfs, putIf, cond_true, also, Nat.reduceBEq, cond_false, Nat.reduceAdd, hd, hk, hf]
             first | exact as_call (f := 93) (gchk_none rfl) rfl Go.Proofs.Try.call93 (by simp only [go_sem, encRing, zeroRing, *]; with_reducible rfl) (by simp only [go_sem, *]; first | done | fail) (by first | assumption | ((with_reducible apply c_slices_Clone_impl_Term_impl_Term) <;> first | assumption | rfl | exact Kept.out (by assumption))) (by simp only [go_sem]; with_reducible rfl) | exact as_snap (f := 93) (gchk_none rfl) rfl Go.Proofs.Try.call93 (by simp only [go_sem, encRing, zeroRing, *]; with_reducible rfl) (by simp only [go_sem, encRing, zeroRing, *]; with_reducible rfl) (by first | assumption | ((with_reducible apply c_slices_Clone_impl_Term_impl_Term) <;> first | assumption | rfl | exact Kept.out (by assumption))) (by simp only [go_sem, *]; first | done | fail) (by simp only [go_sem]; with_reducible rfl)
           with_reducible refine steps_cons2 [9, 10, 11, 12] (by decide +kernel) (fun D hk hd hf => ?_) ?_
           · try simp only [go_sem, allT, Option.getD_some] at hd
             try simp only [go_sem, allF] at hf
             simp only [fillW, putIfs, putIf, cond_true, also, Nat.reduceBEq, cond_false, Nat.reduceAdd, hd, hk, hf]
             exact as_build hT (gchk_none rfl) rfl (by simp only [go_sem]; first | done | with_reducible rfl) (by simp only [go_sem]; first | done | with_reducible rfl) (by simp only [go_sem, bldOk, List.sum_cons, List.sum_nil]; first | done | decide) (by simp only [go_sem, encRing, zeroRing, *]; with_reducible rfl) (by simp only [go_sem, encRing, zeroRing, *]; with_reducible rfl) (by simp only [go_sem]; first | done | fail) (by simp only [go_sem]; with_reducible rfl)
           with_reducible refine steps_cons2 [10, 11, 12] (by decide +kernel) (fun D hk hd hf => ?_) ?_
           · try simp only [go_sem, allT, Option.getD_some] at hd
             try simp only [go_sem, allF] at hf
             simp only [fillW, putIfs, putIf, cond_true, also, Nat.reduceBEq, cond_false, Nat.reduceAdd, hd, hk, hf]
             exact as_bslice hT (gchk_none rfl) rfl (by simp only [go_sem]; first | done | with_reducible rfl) (by simp only [go_sem]; first | done | fail) (by simp only [go_sem]; first | done | with_reducible rfl) (by simp only [go_sem]; first | done | fail) (by simp only [go_sem]; first | done | omega) (by simp only [go_sem, encRing, zeroRing, *]; with_reducible rfl) (by simp only [go_sem, encRing, zeroRing, *]; with_reducible rfl) (by simp only [go_sem]; first | done | fail) (by simp only [go_sem]; with_reducible rfl)
           with_reducible refine steps_cons2 [11, 12] (by decide +kernel) (fun D hk hd hf => ?_) ?_
           · try simp only [go_sem, allT, Option.getD_some] at hd
             try simp only [go_sem, allF] at hf
             simp only [fillW, putIfs, putIf, cond_true, also, Nat.reduceBEq, cond_false, Nat.reduceAdd, hd, hk, hf]
             first | exact as_append hT (gchk_none rfl) rfl (by simp only [go_sem]; first | done | with_reducible rfl) (by simp only [go_sem]; first | done | fail) (by simp only [go_sem]; first | done | with_reducible rfl) (by simp only [go_sem]; first | done | fail) (by simp only [go_sem, encRing, zeroRing, *]; with_reducible rfl) (by simp only [go_sem, encRing, zeroRing, *]; with_reducible rfl) (by simp only [go_sem, *]; first | done | fail) (by simp only [go_sem, encRing, zeroRing, *]; with_reducible rfl) (by simp only [go_sem, encRing, zeroRing, *]; with_reducible rfl) (by simp only [go_sem, *]; first | done | fail) (by simp only [go_sem]; first | done | omega) (by simp only [go_sem]; first | done | omega) (by simp only [go_sem]; with_reducible rfl) | exact as_append2 hT (gchk_none rfl) rfl (by simp only [go_sem]; first | done | with_reducible rfl) (by simp only [go_sem]; first | done | fail) (by simp only [go_sem]; first | done | with_reducible rfl) (by simp only [go_sem]; first | done | fail) (by simp only [go_sem, encRing, zeroRing, *]; with_reducible rfl) (by simp only [go_sem, encRing, zeroRing, *]; with_reducible rfl) (by simp only [go_sem, *]; first | done | fail) (by simp only [go_sem, encRing, zeroRing, *]; with_reducible rfl) (by simp only [go_sem, *]; first | done | fail) (by simp only [go_sem, encRing, zeroRing, *]; with_reducible rfl) (by simp only [go_sem, *]; first | done | fail) (by simp only [go_sem]; first | done | omega) (by simp only [go_sem]; first | done | omega) (by simp only [go_sem]; with_reducible rfl)
           with_reducible refine steps_cons2 [12] (by decide +kernel) (fun D hk hd hf => ?_) ?_
           · try simp only [go_sem, allT, Option.getD_some] at hd
             try simp only [go_sem, allF] at hf
             simp only [fillW, putIfs, putIf, cond_true, also, Nat.reduceBEq, cond_false, Nat.reduceAdd, hd, hk, hf]
             exact as_q hT (gchk_none rfl) (by simp only [go_sem, encRing, zeroRing, *]; with_reducible rfl) (by simp only [go_sem]; with_reducible rfl)
           with_reducible refine steps_cons2 [] (by decide +kernel) (fun D hk hd hf => ?_) ?_
           · try simp only [go_sem, allT, Option.getD_some] at hd
             try simp only [go_sem, allF] at hf
             simp only [fillW, putIfs, putIf, cond_true, also, Nat.reduceBEq, cond_false, Nat.reduceAdd, hd, hk, hf]
             exact as_s hT true (gchk_none rfl) (by simp only [go_sem, encRing, zeroRing, *]; with_reducible rfl)
           exact steps_nil
         · rfl
         simp only [fillW, putIfs, putIf, cond_true])
      | (with_reducible apply aw_anyW (id := 13) [[], [], [1], [0], [0, 1, 2, 3], [0, 1, 2, 3, 4]] [[(59, _)], [(60, _)], [(61, _)], [(6, _), (9, _), (59, _)], [(7, _)], [(8, _)]] hT
         · decide +kernel
         · skip
           with_reducible refine steps_cons2 [3, 4, 5] (by decide +kernel) (fun D hk hd hf => ?_) ?_
           · try simp only [go_sem, allT, Option.getD_some] at hd
             try simp only [go_sem, allF] at hf
             simp only [fillW, putIfs, putIf, cond_true, also, Nat.reduceBEq, cond_false, Nat.reduceAdd, hd, hk, hf]
             exact as_q hT (gchk_none rfl) (by simp only [go_sem, encRing, zeroRing, *]; with_reducible rfl) (by simp only [go_sem]; with_reducible rfl)
           with_reducible refine steps_cons2 [2, 4, 5] (by decide +kernel) (fun D hk hd hf => ?_) ?_
           · try simp only [go_sem, allT, Option.getD_some] at hd
             try simp only [go_sem, allF] at hf
             simp only [fillW, putIfs, putIf, cond_true, also, Nat.reduceBEq, cond_false, Nat.reduceAdd, hd, hk, hf]
             exact as_q hT (gchk_none rfl) (by simp only [go_sem, encRing, zeroRing, *]; with_reducible rfl) (by simp only [go_sem]; with_reducible rfl)
           with_reducible refine steps_cons2 [4, 5] (by decide +kernel) (fun D hk hd hf => ?_) ?_
           · try simp only [go_sem, allT, Option.getD_some] at hd
             try simp only [go_sem, allF] at hf
             simp only [fillW, putIfs, putIf, cond_true, also, Nat.reduceBEq, cond_false, Nat.reduceAdd, hd, hk, hf]
             exact as_q hT (gchk_none rfl) (by simp only [go_sem, encRing, zeroRing, *]; with_reducible rfl) (by simp only [go_sem]; with_reducible rfl)
           with_reducible refine steps_cons2 [4, 5] (by decide +kernel) (fun D hk hd hf => ?_) ?_
           · try simp only [go_sem, allT, Option.getD_some] at hd
             try simp only [go_sem, allF] at hf
             simp only [fillW, putIfs, putIf, cond_true, also, Nat.reduceBEq, cond_false, Nat.reduceAdd, hd, hk, hf]
             exact as_s hT true (gchk_none rfl) (by simp only [go_sem, encRing, zeroRing, *]; with_reducible rfl)
           with_reducible refine steps_cons2 [5] (by decide +kernel) (fun D hk hd hf => ?_) ?_
           · try simp only [go_sem, allT, Option.getD_some] at hd
             try simp only [go_sem, allF] at hf
             simp only [fillW, putIfs, putIf, cond_true, also, Nat.reduceBEq, cond_false, Nat.reduceAdd, hd, hk, hf]
             exact as_s hT true (gchk_none rfl) (by simp only [go_sem, encRing, zeroRing, *]; with_reducible rfl)
           with_reducible refine steps_cons2 [] (by decide +kernel) (fun D hk hd hf => ?_) ?_
           · try simp only [go_sem, allT, Option.getD_some] at hd
             try simp only [go_sem, allF] at hf
             simp only [fillW, putIfs, putIf, cond_true, also, Nat.reduceBEq, cond_false, Nat.reduceAdd, hd, hk, hf]
             exact as_s hT true (gchk_none rfl) (by simp only [go_sem, encRing, zeroRing, *]; with_reducible rfl)
           exact steps_nil
         · rfl
         simp only [fillW, putIfs, putIf, cond_true])
      | with_reducible refine al_nil ?_
      | (with_reducible apply aw_cond
         · simp only [go_sem, *]; with_reducible rfl
         all_goals (intro h; try simp only [Bool.not_eq_true', Bool.not_eq_false', reduceCtorEq] at h))
      | (with_reducible apply al_call (f := 82)
         · first | exact gchk_none rfl | simp only [go_sem, *]
         · rfl
         · exact Go.Proofs.Try.call82
         · simp only [go_sem, encRing, zeroRing, *]; with_reducible rfl
         · simp only [go_sem, *]
         · first | assumption | ((with_reducible apply c_impl_copyRing) <;> first | assumption | rfl | exact Kept.out (by assumption))
         · simp only [go_sem]; with_reducible rfl)
      | (with_reducible apply al_call (f := 18)
         · first | exact gchk_none rfl | simp only [go_sem, *]
         · rfl
         · exact Go.Proofs.Try.call18
         · simp only [go_sem, encRing, zeroRing, *]; with_reducible rfl
         · simp only [go_sem, *]
         · first | assumption | ((with_reducible apply c_impl_RingOk) <;> first | assumption | rfl | exact Kept.out (by assumption))
         · simp only [go_sem]; with_reducible rfl)
      | (with_reducible apply al_call (f := 92)
         · first | exact gchk_none rfl | simp only [go_sem, *]
         · rfl
         · exact Go.Proofs.Try.call92
         · simp only [go_sem, encRing, zeroRing, *]; with_reducible rfl
         · simp only [go_sem, *]
         · first | assumption | ((with_reducible apply c_impl_FilterOk) <;> first | assumption | rfl | exact Kept.out (by assumption))
         · simp only [go_sem]; with_reducible rfl)
      | (with_reducible apply al_s hT true
         · first | exact gchk_none rfl | simp only [go_sem, *]
         · simp only [go_sem, encRing, zeroRing, *]; first | done | with_reducible rfl)
      )
      all_goals (simp only [encRing, List.map_append, List.map_cons, List.map_nil, encSub]; (simp only [go_sem, *]); first | done | rfl)
    · rw [hv (oldestI r) rfl]
      clear hv
      refine sound_body hT Go.Proofs.Try.func34 rfl ?_
      rw [Go.Proofs.Try.results34, Go.Proofs.Try.ntmps34]
      simp only [frame, List.length_cons, List.length_nil, List.replicate, List.cons_append, List.nil_append, Nat.reduceAdd, Nat.reduceSub]
      repeat' (first
      | with_reducible first | refine aw_seq ?_ | refine aw_block ?_ | refine aw_skip ?_ | refine aw_exit ?_
      | with_reducible first | refine aw_ret ?_ | refine thenA_n ?_ | refine thenA_r ?_ | refine thenA_x ?_ | refine blockA_n ?_ | refine blockA_r ?_ | refine blockA_e ?_ | refine blockA_x (by decide) ?_ | refine ends_r ?_ | refine ends_n ?_ | refine ends_rM ?_ | refine ends_nM ?_ | refine aw_reg ?_
      | (with_reducible apply aw_anyW (id := 11) [[], [0], [], [2], [], [], [], [6], [2, 3, 4, 5, 6, 7], [2, 3, 4, 5, 6, 7, 8], [0, 1, 2, 3, 4, 5, 6, 7, 8, 9], [0, 1, 2, 3, 4, 5, 6, 7, 8, 9, 10], [0, 1, 2, 3, 4, 5, 6, 7, 8, 9, 10, 11]] [[(43, _)], [(44, _)], [(45, _)], [(46, _)], [(47, _)], [(48, _)], [(49, _)], [(50, _)], [(51, _), (50, _)], [(52, _), (51, _)], [(53, _), (9, _), (44, _), (52, _)], [(54, _)], [(9, _), (53, _)]] hT
         · decide +kernel
         · skip
           with_reducible refine steps_cons2 [1, 10, 11, 12] (by decide +kernel) (fun D hk hd hf => ?_) ?_
           · try simp only [go_sem, allT, Option.getD_some] at hd
             try simp only [go_sem, allF] at hf
             simp only [fillW, putIfs, putIf, cond_true, also, Nat.reduceBEq, cond_false, Nat.reduceAdd, hd, hk, hf]
             exact as_q hT (gchk_none rfl) (by simp only [go_sem, encRing, zeroRing, *]; with_reducible rfl) (by simp only [go_sem]; with_reducible rfl)
           with_reducible refine steps_cons2 [10, 11, 12] (by decide +kernel) (fun D hk hd hf => ?_) ?_
           · try simp only [go_sem, allT, Option.getD_some] at hd
             try simp only [go_sem, allF] at hf
             simp only [fillW, putIfs, putIf, cond_true, also, Nat.reduceBEq, cond_false, Nat.reduceAdd, hd, hk, hf]
             exact as_q hT (gchk_none rfl) (by simp only [go_sem, encRing, zeroRing, *]; with_reducible rfl) (by simp only [go_sem]; with_reducible rfl)
           with_reducible refine steps_cons2 [3, 8, 9, 10, 11, 12] (by decide +kernel) (fun D hk hd hf => ?_) ?_
           · try simp only [go_sem, allT, Option.getD_some] at hd
             try simp only [go_sem, allF] at hf
             simp only [fillW, putIfs, putIf, cond_true, also, Nat.reduceBEq, cond_false, Nat.reduceAdd, hd, hk, hf]
             exact as_q hT (gchk_none rfl) (by simp only [go_sem, encRing, zeroRing, *]; with_reducible rfl) (by simp only [go_sem]; with_reducible rfl)
           with_reducible refine steps_cons2 [8, 9, 10, 11, 12] (by decide +kernel) (fun D hk hd hf => ?_) ?_
           · try simp only [go_sem, allT, Option.getD_some] at hd
             try simp only [go_sem, allF] at hf
             simp only [fillW, putIfs, putIf, cond_true, also, Nat.reduceBEq, cond_false, Nat.reduceAdd, hd, hk, hf]
             exact as_q hT (gchk_none rfl) (by simp only [go_sem, encRing, zeroRing, *]; with_reducible rfl) (by simp only [go_sem]; with_reducible rfl)
           with_reducible refine steps_cons2 [8, 9, 10, 11, 12] (by decide +kernel) (fun D hk hd hf => ?_) ?_
           · try simp only [go_sem, allT, Option.getD_some] at hd
             try simp only [go_sem, allF] at hf
             simp only [fillW, putIfs, putIf, cond_true, also, Nat.reduceBEq, cond_false, Nat.reduceAdd, hd, hk, hf]
             exact as_q hT (gchk_none rfl) (by simp only [go_sem, encRing, zeroRing, *]; with_reducible rfl) (by simp only [go_sem]; with_reducible rfl)
           with_reducible refine steps_cons2 [8, 9, 10, 11, 12] (by decide +kernel) (fun D hk hd hf => ?_) ?_
           · try simp only [go_sem, allT, Option.getD_some] at hd
             try simp only [go_sem, allF] at hf
             simp only [fillW, putIfs, putIf, cond_true, also, Nat.reduceBEq, cond_false, Nat.reduceAdd, hd, hk, hf]
             exact as_q hT (gchk_none rfl) (by simp only [go_sem, encRing, zeroRing, *]; with_reducible rfl) (by simp only [go_sem]; with_reducible rfl)
           with_reducible refine steps_cons2 [7, 8, 9, 10, 11, 12] (by decide +kernel) (fun D hk hd hf => ?_) ?_
           · try simp only [go_sem, allT, Option.getD_some] at hd
             try simp only [go_sem, allF] at hf
             simp only [fillW, putIfs, putIf, cond_true, also, Nat.reduceBEq, cond_false, Nat.reduceAdd, hd, hk, hf]
             exact as_q hT (gchk_none rfl) (by simp only [go_sem, encRing, zeroRing, *]; with_reducible rfl) (by simp only [go_sem]; with_reducible rfl)
           with_reducible refine steps_cons2 [8, 9, 10, 11, 12] (by decide +kernel) (fun D hk hd hf => ?_) ?_
           · try simp only [go_sem, allT, Option.getD_some] at hd
             try simp only [go_sem, allF] at hf
             simp only [fillW, putIfs, putIf, cond_true, also, Nat.reduceBEq, cond_false, Nat.reduceAdd, hd, hk, hf]
             first | exact as_call (f := 93) (gchk_none rfl) rfl Go.Proofs.Try.call93 (by simp only [go_sem, encRing, zeroRing, *]; with_reducible rfl) (by simp only [go_sem, *]; first | done | fail) (by first | assumption | ((with_reducible apply c_slices_Clone_impl_Term_impl_Term) <;> first | assumption | rfl | exact Kept.out (by assumption))) (by simp only [go_sem]; with_reducible rfl) | exact as_snap (f := 93) (gchk_none rfl) rfl Go.Proofs.Try.call93 (by simp only [go_sem, encRing, zeroRing, *]; with_reducible rfl) (by simp only [go_sem, encRing, zeroRing, *]; with_reducible rfl) (by first | assumption | ((with_reducible apply c_slices_Clone_impl_Term_impl_Term) <;> first | assumption | rfl | exact Kept.out (by assumption))) (by simp only [go_sem, *]; first | done | fail) (by simp only [go_sem]; with_reducible rfl)
           with_reducible refine steps_cons2 [9, 10, 11, 12] (by decide +kernel) (fun D hk hd hf => ?_) ?_
           · try simp only [go_sem, allT, Option.getD_some] at hd
             try simp only [go_sem, allF] at hf
             simp only [fillW, putIfs, putIf, cond_true, also, Nat.reduceBEq, cond_false, Nat.reduceAdd, hd, hk, hf]
             exact as_build hT (gchk_none rfl) rfl (by simp only [go_sem]; first | done | with_reducible rfl) (by simp only [go_sem]; first | done | with_reducible rfl) (by simp only [go_sem, bldOk, List.sum_cons, List.sum_nil]; first | done | decide) (by simp only [go_sem, encRing, zeroRing, *]; with_reducible rfl) (by simp only [go_sem, encRing, zeroRing, *]; with_reducible rfl) (by simp only [go_sem]; first | done | fail) (by simp only [go_sem]; with_reducible rfl)
           with_reducible refine steps_cons2 [10, 11, 12] (by decide +kernel) (fun D hk hd hf => ?_) ?_
           · try simp only [go_sem, allT, Option.getD_some] at hd
             try simp only [go_sem, allF] at hf
             simp only [fillW, putIfs, putIf, cond_true, also, Nat.reduceBEq, cond_false, Nat.reduceAdd, hd, hk, hf]
             exact as_bslice hT (gchk_none rfl) rfl (by simp only [go_sem]; first | done | with_reducible rfl) (by simp only [go_sem]; first | done | fail) (by simp only [go_sem]; first | done | with_reducible rfl) (by simp only [go_sem]; first | done | fail) (by simp only [go_sem]; first | done | omega) (by simp only [go_sem, encRing, zeroRing, *]; with_reducible rfl) (by simp only [go_sem, encRing, zeroRing, *]; with_reducible rfl) (by simp only [go_sem]; first | done | fail) (by simp only [go_sem]; with_reducible rfl)
           with_reducible refine steps_cons2 [11, 12] (by decide +kernel) (fun D hk hd hf => ?_) ?_
           · try simp only [go_sem, allT, Option.getD_some] at hd
             try simp only [go_sem, allF] at hf
             simp only [fillW, putIfs, putIf, cond_true, also, Nat.reduceBEq, cond_false, Nat.reduceAdd, hd, hk, hf]
             first | exact as_append hT (gchk_none rfl) rfl (by simp only [go_sem]; first | done | with_reducible rfl) (by simp only [go_sem]; first | done | fail) (by simp only [go_sem]; first | done | with_reducible rfl) (by simp only [go_sem]; first | done | fail) (by simp only [go_sem, encRing, zeroRing, *]; with_reducible rfl) (by simp only [go_sem, encRing, zeroRing, *]; with_reducible rfl) (by simp only [go_sem, *]; first | done | fail) (by simp only [go_sem, encRing, zeroRing, *]; with_reducible rfl) (by simp only [go_sem, encRing, zeroRing, *]; with_reducible rfl) (by simp only [go_sem, *]; first | done | fail) (by simp only [go_sem]; first | done | omega) (by simp only [go_sem]; first | done | omega) (by simp only [go_sem]; with_reducible rfl) | exact as_append2 hT (gchk_none rfl) rfl (by simp only [go_sem]; first | done | with_reducible rfl) (by simp only [go_sem]; first | done | fail) (by simp only [go_sem]; first | done | with_reducible rfl) (by simp only [go_sem]; first | done | fail) (by simp only [go_sem, encRing, zeroRing, *]; with_reducible rfl) (by simp only [go_sem, encRing, zeroRing, *]; with_reducible rfl) (by simp only [go_sem, *]; first | done | fail) (by simp only [go_sem, encRing, zeroRing, *]; with_reducible rfl) (by simp only [go_sem, *]; first | done | fail) (by simp only [go_sem, encRing, zeroRing, *]; with_reducible rfl) (by simp only [go_sem, *]; first | done | fail) (by simp only [go_sem]; first | done | omega) (by simp only [go_sem]; first | done | omega) (by simp only [go_sem]; with_reducible rfl)
           with_reducible refine steps_cons2 [12] (by decide +kernel) (fun D hk hd hf => ?_) ?_
           · try simp only [go_sem, allT, Option.getD_some] at hd
             try simp only [go_sem, allF] at hf
             simp only [fillW, putIfs, putIf, cond_true, also, Nat.reduceBEq, cond_false, Nat.reduceAdd, hd, hk, hf]
             exact as_q hT (gchk_none rfl) (by simp only [go_sem, encRing, zeroRing, *]; with_reducible rfl) (by simp only [go_sem]; with_reducible rfl)
           with_reducible refine steps_cons2 [] (by decide +kernel) (fun D hk hd hf => ?_) ?_
           · try simp only [go_sem, allT, Option.getD_some] at hd
             try simp only [go_sem, allF] at hf
             simp only [fillW, putIfs, putIf, cond_true, also, Nat.reduceBEq, cond_false, Nat.reduceAdd, hd, hk, hf]
             exact as_s hT true (gchk_none rfl) (by simp only [go_sem, encRing, zeroRing, *]; with_reducible rfl)
           exact steps_nil
         · rfl
         simp only [fillW, putIfs, putIf, cond_true])
      | (with_reducible apply aw_anyW (id := 13) [[], [], [1], [0], [0, 1, 2, 3], [0, 1, 2, 3, 4]] [[(59, _)], [(60, _)], [(61, _)], [(6, _), (9, _), (59, _)], [(7, _)], [(8, _)]] hT
         · decide +kernel
         · skip
           with_reducible refine steps_cons2 [3, 4, 5] (by decide +kernel) (fun D hk hd hf => ?_) ?_
           · try simp only [go_sem, allT, Option.getD_some] at hd
             try simp only [go_sem, allF] at hf
             simp only [fillW, putIfs, putIf, cond_true, also, Nat.reduceBEq, cond_false, Nat.reduceAdd, hd, hk, hf]
             exact as_q hT (gchk_none rfl) (by simp only [go_sem, encRing, zeroRing, *]; with_reducible rfl) (by simp only [go_sem]; with_reducible rfl)
           with_reducible refine steps_cons2 [2, 4, 5] (by decide +kernel) (fun D hk hd hf => ?_) ?_
           · try simp only [go_sem, allT, Option.getD_some] at hd
             try simp only [go_sem, allF] at hf
             simp only [fillW, putIfs, putIf, cond_true, also, Nat.reduceBEq, cond_false, Nat.reduceAdd, hd, hk, hf]
             exact as_q hT (gchk_none rfl) (by simp only [go_sem, encRing, zeroRing, *]; with_reducible rfl) (by simp only [go_sem]; with_reducible rfl)
           with_reducible refine steps_cons2 [4, 5] (by decide +kernel) (fun D hk hd hf => ?_) ?_
           · try simp only [go_sem, allT, Option.getD_some] at hd
             try simp only [go_sem, allF] at hf
             simp only [fillW, putIfs, putIf, cond_true, also, Nat.reduceBEq, cond_false, Nat.reduceAdd, hd, hk, hf]
             exact as_q hT (gchk_none rfl) (by simp only [go_sem, encRing, zeroRing, *]; with_reducible rfl) (by simp only [go_sem]; with_reducible rfl)
           with_reducible refine steps_cons2 [4, 5] (by decide +kernel) (fun D hk hd hf => ?_) ?_
           · try simp only [go_sem, allT, Option.getD_some] at hd
             try simp only [go_sem, allF] at hf
             simp only [fillW, putIfs, putIf, cond_true, also, Nat.reduceBEq, cond_false, Nat.reduceAdd, hd, hk, hf]
             exact as_s hT true (gchk_none rfl) (by simp only [go_sem, encRing, zeroRing, *]; with_reducible rfl)
           with_reducible refine steps_cons2 [5] (by decide +kernel) (fun D hk hd hf => ?_) ?_
           · try simp only [go_sem, allT, Option.getD_some] at hd
             try simp only [go_sem, allF] at hf
             simp only [fillW, putIfs, putIf, cond_true, also, Nat.reduceBEq, cond_false, Nat.reduceAdd, hd, hk, hf]
             exact as_s hT true (gchk_none rfl) (by simp only [go_sem, encRing, zeroRing, *]; with_reducible rfl)
           with_reducible refine steps_cons2 [] (by decide +kernel) (fun D hk hd hf => ?_) ?_
           · try simp only [go_sem, allT, Option.getD_some] at hd
             try simp only [go_sem, allF] at hf
             simp only [fillW, putIfs, putIf, cond_true, also, Nat.reduceBEq, cond_false, Nat.reduceAdd, hd, hk, hf]
             exact as_s hT true (gchk_none rfl) (by simp only [go_sem, encRing, zeroRing, *]; with_reducible rfl)
           exact steps_nil
         · rfl
         simp only [fillW, putIfs, putIf, cond_true])
      | with_reducible refine al_nil ?_
      | (with_reducible apply aw_cond
         · simp only [go_sem, *]; with_reducible rfl
         all_goals (intro h; try simp only [Bool.not_eq_true', Bool.not_eq_false', reduceCtorEq] at h))
      | (with_reducible apply al_call (f := 82)
         · first | exact gchk_none rfl | simp only [go_sem, *]
         · rfl
         · exact Go.Proofs.Try.call82
         · simp only [go_sem, encRing, zeroRing, *]; with_reducible rfl
         · simp only [go_sem, *]
         · first | assumption | ((with_reducible apply c_impl_copyRing) <;> first | assumption | rfl | exact Kept.out (by assumption))
         · simp only [go_sem]; with_reducible rfl)
      | (with_reducible apply al_call (f := 18)
         · first | exact gchk_none rfl | simp only [go_sem, *]
         · rfl
         · exact Go.Proofs.Try.call18
         · simp only [go_sem, encRing, zeroRing, *]; with_reducible rfl
         · simp only [go_sem, *]
         · first | assumption | ((with_reducible apply c_impl_RingOk) <;> first | assumption | rfl | exact Kept.out (by assumption))
         · simp only [go_sem]; with_reducible rfl)
      | (with_reducible apply al_call (f := 92)
         · first | exact gchk_none rfl | simp only [go_sem, *]
         · rfl
         · exact Go.Proofs.Try.call92
         · simp only [go_sem, encRing, zeroRing, *]; with_reducible rfl
         · simp only [go_sem, *]
         · first | assumption | ((with_reducible apply c_impl_FilterOk) <;> first | assumption | rfl | exact Kept.out (by assumption))
         · simp only [go_sem]; with_reducible rfl)
      | (with_reducible apply al_call (f := 76)
         · first | exact gchk_none rfl | simp only [go_sem, *]
         · rfl
         · exact Go.Proofs.Try.call76
         · simp only [go_sem, encRing, zeroRing, *]; with_reducible rfl
         · simp only [go_sem, *]
         · first | assumption | ((with_reducible apply c_impl_oldest) <;> first | assumption | rfl | exact Kept.out (by assumption))
         · simp only [go_sem]; with_reducible rfl)
      | (with_reducible apply al_s hT true
         · first | exact gchk_none rfl | simp only [go_sem, *]
         · simp only [go_sem, encRing, zeroRing, *]; first | done | with_reducible rfl)
      )
      all_goals (simp only [encRing, List.map_append, List.map_cons, List.map_nil, encSub]; (simp only [go_sem, *]); first | done | rfl)
end Go.Proofs.Ytcgkejggkenecaa
