/- The law FnExactSubscribe returns true of every ring, filter and flag. -/
import Derived.Test.YtcgkejggkenecaaFnBs
namespace Go.Proofs.Ytcgkejggkenecaa
open Go Go.RowKit Go.Bv
set_option linter.unusedSimpArgs false
set_option linter.unusedVariables false
set_option maxRecDepth 4000
set_option maxHeartbeats 8000000

theorem sub_ring_len {r : RingV} (h : wRing r ≤ 1048576) : r.line.length ≤ 1048576 ∧ r.grants.length ≤ 1048576 ∧ r.items.length ≤ 1048576 ∧ r.subs.length ≤ 1048576 := by
  simp only [wRing, wMsgS, wSubS, wIntS] at h
  omega
theorem sub_w (r : RingV) (f : List TermV) (back : Bool) : wRing (subR r f back) ≤ wRing r + 1 + wTermS f := by
  unfold subR
  split
  · simp only [wRing, wSubS, List.length_append, sumL_append, List.length_cons, List.length_nil]
    have : ∀ x y, sumL wSub [⟨r.next, x, y, 0, 0, 0, f⟩] = wTermS f := fun x y => by simp [sumL, wSub]
    rw [this]
    omega
  · omega
theorem c_laws_FnExactSubscribe (r : RingV) (f : List TermV) (back : Bool) {u : AV} (hu : u = encRing false r) (hr : okRing r) (hf : okTermS f) : Sound P 7 [u, .lst false 3 (f.map encT), .bool back] (.bool true) := by
  subst hu
  have h0 : decide ((1048576 : Int) < 0) = false := by decide
  have h1 : (1048576 : Int) ≤ 1048576 := by omega
  rcases szW_cases (wRing r) 1048576 with ⟨hw, hz⟩ | ⟨hw, hz⟩
  rotate_left
  · have hg : decide ((-1 : Int) < 0) = true := by decide
    refine sound_body hT Go.Proofs.Try.func7 rfl ?_
    rw [Go.Proofs.Try.results7, Go.Proofs.Try.ntmps7]
    simp only [frame, List.length_cons, List.length_nil, List.replicate, List.cons_append, List.nil_append, Nat.reduceAdd, Nat.reduceSub]
    repeat' (first
    | with_reducible first | refine aw_seq ?_ | refine aw_block ?_ | refine aw_skip ?_ | refine aw_exit ?_
    | with_reducible first | refine aw_ret ?_ | refine thenA_n ?_ | refine thenA_r ?_ | refine thenA_x ?_ | refine blockA_n ?_ | refine blockA_r ?_ | refine blockA_e ?_ | refine blockA_x (by decide) ?_ | refine ends_r ?_ | refine ends_n ?_ | refine ends_rM ?_ | refine ends_nM ?_ | refine aw_reg ?_
    | with_reducible refine al_nil ?_
    | (with_reducible apply aw_cond
       · simp only [go_sem, *]; with_reducible rfl
       all_goals (intro h; try simp only [Bool.not_eq_true', Bool.not_eq_false', reduceCtorEq] at h))
    | (with_reducible apply al_call (f := 15)
       · first | exact gchk_none rfl | simp only [go_sem, *]
       · rfl
       · exact Go.Proofs.Try.call15
       · simp only [go_sem, encRing, *]; with_reducible rfl
       · simp only [go_sem, *]
       · first | assumption | ((with_reducible apply c_laws_szRing) <;> first | assumption | rfl)
       · simp only [go_sem]; with_reducible rfl)
    | (with_reducible apply al_s hT true
       · first | exact gchk_none rfl | simp only [go_sem, *]
       · simp only [go_sem, encRing, *]; first | done | with_reducible rfl)
    )
    all_goals ((simp only [go_sem, *]); first | done | rfl)
  have hg : decide ((1048576 : Int) - (wRing r : Int) < 0) = false := decide_eq_false (by omega)
  have h2 : (1048576 : Int) - (wRing r : Int) ≤ 1048576 := by omega
  rcases szW_cases (wTermS f) (1048576 - (wRing r : Int)) with ⟨hv, hy⟩ | ⟨hv, hy⟩
  rotate_left
  · have hg2 : decide ((-1 : Int) < 0) = true := by decide
    refine sound_body hT Go.Proofs.Try.func7 rfl ?_
    rw [Go.Proofs.Try.results7, Go.Proofs.Try.ntmps7]
    simp only [frame, List.length_cons, List.length_nil, List.replicate, List.cons_append, List.nil_append, Nat.reduceAdd, Nat.reduceSub]
    repeat' (first
    | with_reducible first | refine aw_seq ?_ | refine aw_block ?_ | refine aw_skip ?_ | refine aw_exit ?_
    | with_reducible first | refine aw_ret ?_ | refine thenA_n ?_ | refine thenA_r ?_ | refine thenA_x ?_ | refine blockA_n ?_ | refine blockA_r ?_ | refine blockA_e ?_ | refine blockA_x (by decide) ?_ | refine ends_r ?_ | refine ends_n ?_ | refine ends_rM ?_ | refine ends_nM ?_ | refine aw_reg ?_
    | with_reducible refine al_nil ?_
    | (with_reducible apply aw_cond
       · simp only [go_sem, *]; with_reducible rfl
       all_goals (intro h; try simp only [Bool.not_eq_true', Bool.not_eq_false', reduceCtorEq] at h))
    | (with_reducible apply al_call (f := 15)
       · first | exact gchk_none rfl | simp only [go_sem, *]
       · rfl
       · exact Go.Proofs.Try.call15
       · simp only [go_sem, encRing, *]; with_reducible rfl
       · simp only [go_sem, *]
       · first | assumption | ((with_reducible apply c_laws_szRing) <;> first | assumption | rfl)
       · simp only [go_sem]; with_reducible rfl)
    | (with_reducible apply al_call (f := 31)
       · first | exact gchk_none rfl | simp only [go_sem, *]
       · rfl
       · exact Go.Proofs.Try.call31
       · simp only [go_sem, encRing, *]; with_reducible rfl
       · simp only [go_sem, *]
       · first | assumption | ((with_reducible apply c_laws_szTermS) <;> first | assumption | rfl)
       · simp only [go_sem]; with_reducible rfl)
    | (with_reducible apply al_s hT true
       · first | exact gchk_none rfl | simp only [go_sem, *]
       · simp only [go_sem, encRing, *]; first | done | with_reducible rfl)
    )
    all_goals ((simp only [go_sem, *]); first | done | rfl)
  have hg2 : decide ((1048576 : Int) - (wRing r : Int) - (wTermS f : Int) < 0) = false := decide_eq_false (by omega)
  have hwn : wRing r ≤ 1048576 := by omega
  have hw4 : wRing r ≤ 4194304 := by omega
  have hf4 : wTermS f ≤ 4194304 := by omega
  have hfl : f.length ≤ 4194304 := by simp only [wTermS] at hf4; omega
  obtain ⟨l1, l2, l3, _⟩ := sub_ring_len hwn
  have hqw := sub_w r f back
  obtain ⟨q, hq⟩ : ∃ q, subR r f back = q := ⟨_, rfl⟩
  obtain ⟨n, hn⟩ : ∃ n, subN r f = n := ⟨_, rfl⟩
  obtain ⟨c, hc⟩ : ∃ c, subC r f = c := ⟨_, rfl⟩
  rw [hq] at hqw
  have hq4 : wRing q ≤ 4194304 := by omega
  have t1 := mt10Ring r
  have t2 := mt10Ring q
  have t3 := mw10TermS f
  have hk1 : 1 + ((mtRingW r : Nat) : Int) ≤ 1099511627776 := by omega
  have hk3 : 0 ≤ 1 + ((mtRingW r : Nat) : Int) := by omega
  have hk4 : 1 + ((mtRingW r : Nat) : Int) + ((mwTermS f : Nat) : Int) ≤ 1099511627776 := by omega
  have hb1 : decide (1 + ((mtRingW r : Nat) : Int) + ((mwTermS f : Nat) : Int) < 0) = false := decide_eq_false (by omega)
  have hk2 : 1 + ((mtRingW q : Nat) : Int) ≤ 1099511627776 := by omega
  have hb2 : decide (1 + ((mtRingW q : Nat) : Int) < 0) = false := decide_eq_false (by omega)
  have hp : (0 : Int) ≤ 1 := by omega
  clear hqw t1 t2 t3 hwn hw hv
  refine sound_body hT Go.Proofs.Try.func7 rfl ?_
  rw [Go.Proofs.Try.results7, Go.Proofs.Try.ntmps7]
  simp only [frame, List.length_cons, List.length_nil, List.replicate, List.cons_append, List.nil_append, Nat.reduceAdd, Nat.reduceSub]
  repeat' (first
  | with_reducible first | refine aw_seq ?_ | refine aw_block ?_ | refine aw_skip ?_ | refine aw_exit ?_
  | with_reducible first | refine aw_ret ?_ | refine thenA_n ?_ | refine thenA_r ?_ | refine thenA_x ?_ | refine blockA_n ?_ | refine blockA_r ?_ | refine blockA_e ?_ | refine blockA_x (by decide) ?_ | refine ends_r ?_ | refine ends_n ?_ | refine ends_rM ?_ | refine ends_nM ?_ | refine aw_reg ?_
  | (with_reducible apply aw_anyS hT (id := 14) [[], [], [1], [0, 1, 2], [0, 1, 2, 3]] [68, 69, 70, 71, 72]
     · rfl
     · decide +kernel
     · decide +kernel
     · simp only [go_sem, *])
  | with_reducible refine al_nil ?_
  | (with_reducible apply aw_cond
     · simp only [go_sem, *]; with_reducible rfl
     all_goals (intro h; try simp only [Bool.not_eq_true', Bool.not_eq_false', reduceCtorEq] at h))
  | (with_reducible apply al_call (f := 15)
     · first | exact gchk_none rfl | simp only [go_sem, *]
     · rfl
     · exact Go.Proofs.Try.call15
     · simp only [go_sem, encRing, *]; with_reducible rfl
     · simp only [go_sem, *]
     · first | assumption | ((with_reducible apply c_laws_szRing) <;> first | assumption | rfl)
     · simp only [go_sem]; with_reducible rfl)
  | (with_reducible apply al_call (f := 31)
     · first | exact gchk_none rfl | simp only [go_sem, *]
     · rfl
     · exact Go.Proofs.Try.call31
     · simp only [go_sem, encRing, *]; with_reducible rfl
     · simp only [go_sem, *]
     · first | assumption | ((with_reducible apply c_laws_szTermS) <;> first | assumption | rfl)
     · simp only [go_sem]; with_reducible rfl)
  | (with_reducible apply al_call (f := 17)
     · first | exact gchk_none rfl | simp only [go_sem, *]
     · rfl
     · exact Go.Proofs.Try.call17
     · simp only [go_sem, encRing, *]; with_reducible rfl
     · simp only [go_sem, *]
     · first | assumption | ((with_reducible apply c_laws_toRing) <;> first | assumption | rfl)
     · simp only [go_sem]; with_reducible rfl)
  | (with_reducible apply al_call (f := 33)
     · first | exact gchk_none rfl | simp only [go_sem, *]
     · rfl
     · exact Go.Proofs.Try.call33
     · simp only [go_sem, encRing, *]; with_reducible rfl
     · simp only [go_sem, *]
     · first | assumption | ((with_reducible apply c_laws_toTermS) <;> first | assumption | rfl)
     · simp only [go_sem]; with_reducible rfl)
  | (with_reducible apply al_snap (f := 32)
     · first | exact gchk_none rfl | simp only [go_sem, *]
     · rfl
     · exact Go.Proofs.Try.call32
     · simp only [go_sem, encRing, *]; with_reducible rfl
     · simp only [go_sem, encRing, *]; with_reducible rfl
     · first | assumption | ((with_reducible apply c_spec_Subscribe) <;> first | assumption | rfl)
     · simp only [go_sem, *]
     · simp only [go_sem]; with_reducible rfl)
  | (with_reducible apply al_snap (f := 34)
     · first | exact gchk_none rfl | simp only [go_sem, *]
     · rfl
     · exact Go.Proofs.Try.call34
     · simp only [go_sem, encRing, *]; with_reducible rfl
     · simp only [go_sem, encRing, *]; with_reducible rfl
     · first | assumption | ((with_reducible apply c_impl_Subscribe) <;> first | assumption | rfl)
     · simp only [go_sem, *]
     · simp only [go_sem]; with_reducible rfl)
  | (with_reducible apply al_snap (f := 19)
     · first | exact gchk_none rfl | simp only [go_sem, *]
     · rfl
     · exact Go.Proofs.Try.call19
     · simp only [go_sem, encRing, *]; with_reducible rfl
     · simp only [go_sem, encRing, *]; with_reducible rfl
     · first | assumption | ((with_reducible apply c_laws_eqRing) <;> first | assumption | rfl)
     · simp only [go_sem, *]
     · simp only [go_sem]; with_reducible rfl)
  | (with_reducible apply al_snap (f := 35)
     · first | exact gchk_none rfl | simp only [go_sem, *]
     · rfl
     · exact Go.Proofs.Try.call35
     · simp only [go_sem, encRing, *]; with_reducible rfl
     · simp only [go_sem, encRing, *]; with_reducible rfl
     · first | assumption | ((with_reducible apply c_laws_eqTermS) <;> first | assumption | rfl)
     · simp only [go_sem, *]
     · simp only [go_sem]; with_reducible rfl)
  | (with_reducible apply al_snap (f := 29)
     · first | exact gchk_none rfl | simp only [go_sem, *]
     · rfl
     · exact Go.Proofs.Try.call29
     · simp only [go_sem, encRing, *]; with_reducible rfl
     · simp only [go_sem, encRing, *]; with_reducible rfl
     · first | assumption | ((with_reducible apply c_laws_heldRing) <;> first | assumption | rfl)
     · simp only [go_sem, *]
     · simp only [go_sem]; with_reducible rfl)
  | (with_reducible apply al_lendV (f := 27) 0
     · exact gchk_none rfl
     · rfl
     · exact Go.Proofs.Try.call27
     · simp only [go_sem, encRing, *]; with_reducible rfl
     · simp only [go_sem]; with_reducible rfl
     · simp only [go_sem]; with_reducible rfl
     · simp only [go_sem]; with_reducible rfl
     · simp only [go_sem, *]
     · simp only [go_sem, encRing, *]; with_reducible rfl
     · simp only [go_sem, encRing, *]
     · simp only [go_sem, *]
     · simp only [go_sem, *]
     · simp only [go_sem]
       (with_reducible apply m_laws_markRing) <;> first | assumption | rfl
     · simp only [go_sem, encRing, *]
     · simp only [go_sem, encRing]; with_reducible rfl)
  | (with_reducible apply al_lendV (f := 36) 0
     · exact gchk_none rfl
     · rfl
     · exact Go.Proofs.Try.call36
     · simp only [go_sem, encRing, *]; with_reducible rfl
     · simp only [go_sem]; with_reducible rfl
     · simp only [go_sem]; with_reducible rfl
     · simp only [go_sem]; with_reducible rfl
     · simp only [go_sem, *]
     · simp only [go_sem, encRing, *]; with_reducible rfl
     · simp only [go_sem, encRing, *]
     · simp only [go_sem, *]
     · simp only [go_sem, *]
     · simp only [go_sem]
       (with_reducible apply m_laws_markTermS) <;> first | assumption | rfl
     · simp only [go_sem, encRing, *]
     · simp only [go_sem, encRing]; with_reducible rfl)
  | (with_reducible apply al_movetup
     · exact gchk_none rfl
     · rfl
     · simp only [go_sem, *]; with_reducible rfl
     · simp only [go_sem]; with_reducible rfl)
  | with_reducible refine ad_nil ?_
  | (with_reducible apply ad_q hT
     · first | exact gchk_none rfl | simp only [go_sem, *]
     · simp only [go_sem, encRing, *]; first | done | with_reducible rfl
     · simp only [go_sem, *]
     · simp only [go_sem]; with_reducible rfl)
  | (with_reducible apply ad_call (f := 17)
     · first | exact gchk_none rfl | simp only [go_sem, *]
     · rfl
     · exact Go.Proofs.Try.call17
     · simp only [go_sem, encRing, *]; with_reducible rfl
     · simp only [go_sem, *]
     · first | assumption | ((with_reducible apply c_laws_toRing) <;> first | assumption | rfl)
     · simp only [go_sem, *]
     · simp only [go_sem]; with_reducible rfl)
  | (with_reducible apply ad_snap (f := 19)
     · first | exact gchk_none rfl | simp only [go_sem, *]
     · rfl
     · exact Go.Proofs.Try.call19
     · simp only [go_sem, encRing, *]; with_reducible rfl
     · simp only [go_sem, encRing, *]; with_reducible rfl
     · first | assumption | ((with_reducible apply c_laws_eqRing) <;> first | assumption | rfl)
     · simp only [go_sem, *]
     · simp only [go_sem, *]
     · simp only [go_sem]; with_reducible rfl)
  | (with_reducible apply al_s hT true
     · first | exact gchk_none rfl | simp only [go_sem, *]
     · simp only [go_sem, encRing, *]; first | done | with_reducible rfl)
  )
  all_goals ((simp only [go_sem, *]); first | done | rfl)
end Go.Proofs.Ytcgkejggkenecaa
