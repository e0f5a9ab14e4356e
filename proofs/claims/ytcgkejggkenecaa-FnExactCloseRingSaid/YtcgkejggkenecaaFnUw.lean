/- Contracts: Unwait; the law. -/
import Derived.Test.YtcgkejggkenecaaFnUi
import Derived.Test.YtcgkejggkenecaaFnSs
namespace Go.Proofs.Ytcgkejggkenecaa
open Go Go.RowKit Go.Bv
set_option linter.unusedSimpArgs false
set_option linter.unusedVariables false
set_option maxRecDepth 4000
set_option maxHeartbeats 1000000

theorem RingIs.nodup {r : RingV} (h : RingIs r) : (r.line ++ r.grants).Nodup := by
  have hw := h.waits
  rw [waitB, Bool.and_eq_true, allTo_iff] at hw
  refine nodup_of_take fun i id hi => ?_
  have := hw.1 i (List.getElem?_eq_some_iff.1 hi).1
  unfold waitQ at this
  rw [hi] at this
  simp only [Bool.and_eq_true, Bool.not_eq_true'] at this
  exact this.1.2
theorem RingIs.line {r : RingV} (h : RingIs r) : r.line.Nodup := (List.nodup_append.1 h.nodup).1
theorem RingIs.grants {r : RingV} (h : RingIs r) : r.grants.Nodup := (List.nodup_append.1 h.nodup).2.1
theorem c_spec_Unwait (r : RingV) (id : Int) {u : AV} (hu : u = encRing false r) (hr : okRing r) (hw : wRing r ≤ 4194304) (h1 : r.line.length ≤ 1048576) (h2 : r.grants.length ≤ 1048576) (h5 : r.items.length ≤ 1048576) : Sound P 37 [u, .int .i64 id] (.tup [encRing true (unwaitR r id), .int .i64 (unwaitC r id)]) := by
  subst hu
  have l1 : r.line.length < 4611686018427387904 := hr.2.2.1.1
  have l2 : r.grants.length < 4611686018427387904 := hr.2.2.2.1
  have h3 : r.line.length ≤ 4194304 := by omega
  have h4 : r.grants.length ≤ 4194304 := by omega
  cases hB : ringB r
  · have hv : unwaitR r id = r := by simp [unwaitR, hB]
    have hc : unwaitC r id = 1 := by simp [unwaitC, hB]
    rw [hv, hc]
    clear hv hc
    refine sound_body hT Go.Proofs.Try.func37 rfl ?_
    rw [Go.Proofs.Try.results37, Go.Proofs.Try.ntmps37]
    simp only [frame, List.length_cons, List.length_nil, List.replicate, List.cons_append, List.nil_append, Nat.reduceAdd, Nat.reduceSub]
    repeat' (first
    | with_reducible first | refine aw_seq ?_ | refine aw_block ?_ | refine aw_skip ?_ | refine aw_exit ?_
    | with_reducible first | refine aw_ret ?_ | refine thenA_n ?_ | refine thenA_r ?_ | refine thenA_x ?_ | refine blockA_n ?_ | refine blockA_r ?_ | refine blockA_e ?_ | refine blockA_x (by decide) ?_ | refine ends_r ?_ | refine ends_n ?_ | refine ends_rM ?_ | refine ends_nM ?_ | refine aw_reg ?_
    | with_reducible refine al_nil ?_
    | (with_reducible apply aw_cond
       · simp only [go_sem, *]; with_reducible rfl
       all_goals (intro h; try simp only [Bool.not_eq_true', Bool.not_eq_false', reduceCtorEq] at h))
    | (with_reducible apply al_call (f := 81)
       · first | exact gchk_none rfl | simp only [go_sem, *]
       · rfl
       · exact Go.Proofs.Try.call81
       · simp only [go_sem, encRing, zeroRing, *]; with_reducible rfl
       · simp only [go_sem, *]
       · first | assumption | ((with_reducible apply c_spec_l9Copy) <;> first | assumption | rfl)
       · simp only [go_sem]; with_reducible rfl)
    | (with_reducible apply al_call (f := 16)
       · first | exact gchk_none rfl | simp only [go_sem, *]
       · rfl
       · exact Go.Proofs.Try.call16
       · simp only [go_sem, encRing, zeroRing, *]; with_reducible rfl
       · simp only [go_sem, *]
       · first | assumption | ((with_reducible apply c_spec_RingOk) <;> first | assumption | rfl)
       · simp only [go_sem]; with_reducible rfl)
    | (with_reducible apply al_s hT true
       · first | exact gchk_none rfl | simp only [go_sem, *]
       · simp only [go_sem, encRing, zeroRing, *]; first | done | with_reducible rfl)
    )
    all_goals ((simp only [go_sem, *]); first | done | rfl)
  have n1 := less1_nodup (n := id) (ringIs hB).line
  have n2 := less1_nodup (n := id) (ringIs hB).grants
  rcases (by cases r.line.any (· == id) <;> cases r.grants.any (· == id) <;> simp : (r.line.any (· == id) = false ∧ r.grants.any (· == id) = false) ∨ r.line.any (· == id) = true ∨ (r.line.any (· == id) = false ∧ r.grants.any (· == id) = true)) with hL | hL | hL
  · obtain ⟨hL, hG⟩ := hL
    have hv : unwaitR r id = r := by simp only [unwaitR, unwaitB, hB, hL, hG]; rfl
    have hc : unwaitC r id = 3 := by simp only [unwaitC, unwaitB, hB, hL, hG]; rfl
    rw [hv, hc]
    clear hv hc n1 n2
    refine sound_body hT Go.Proofs.Try.func37 rfl ?_
    rw [Go.Proofs.Try.results37, Go.Proofs.Try.ntmps37]
    simp only [frame, List.length_cons, List.length_nil, List.replicate, List.cons_append, List.nil_append, Nat.reduceAdd, Nat.reduceSub]
    repeat' (first
    | with_reducible first | refine aw_seq ?_ | refine aw_block ?_ | refine aw_skip ?_ | refine aw_exit ?_
    | with_reducible first | refine aw_ret ?_ | refine thenA_n ?_ | refine thenA_r ?_ | refine thenA_x ?_ | refine blockA_n ?_ | refine blockA_r ?_ | refine blockA_e ?_ | refine blockA_x (by decide) ?_ | refine ends_r ?_ | refine ends_n ?_ | refine ends_rM ?_ | refine ends_nM ?_ | refine aw_reg ?_
    | with_reducible refine al_nil ?_
    | (with_reducible apply aw_cond
       · simp only [go_sem, *]; with_reducible rfl
       all_goals (intro h; try simp only [Bool.not_eq_true', Bool.not_eq_false', reduceCtorEq] at h))
    | (with_reducible apply al_call (f := 81)
       · first | exact gchk_none rfl | simp only [go_sem, *]
       · rfl
       · exact Go.Proofs.Try.call81
       · simp only [go_sem, encRing, zeroRing, *]; with_reducible rfl
       · simp only [go_sem, *]
       · first | assumption | ((with_reducible apply c_spec_l9Copy) <;> first | assumption | rfl)
       · simp only [go_sem]; with_reducible rfl)
    | (with_reducible apply al_call (f := 16)
       · first | exact gchk_none rfl | simp only [go_sem, *]
       · rfl
       · exact Go.Proofs.Try.call16
       · simp only [go_sem, encRing, zeroRing, *]; with_reducible rfl
       · simp only [go_sem, *]
       · first | assumption | ((with_reducible apply c_spec_RingOk) <;> first | assumption | rfl)
       · simp only [go_sem]; with_reducible rfl)
    | (with_reducible apply al_call (f := 66)
       · first | exact gchk_none rfl | simp only [go_sem, *]
       · rfl
       · exact Go.Proofs.Try.call66
       · simp only [go_sem, encRing, zeroRing, *]; with_reducible rfl
       · simp only [go_sem, *]
       · first | assumption | ((with_reducible apply c_spec_l2Has) <;> first | assumption | rfl)
       · simp only [go_sem]; with_reducible rfl)
    | (with_reducible apply al_s hT true
       · first | exact gchk_none rfl | simp only [go_sem, *]
       · simp only [go_sem, encRing, zeroRing, *]; first | done | with_reducible rfl)
    )
    all_goals ((simp only [go_sem, *]); first | done | rfl)
  · have hv : unwaitR r id = { r with line := r.line.filter fun x => !(x == id), grants := r.grants.filter fun x => !(x == id) } := by simp only [unwaitR, unwaitB, hB, hL]; rfl
    have hc : unwaitC r id = 0 := by simp only [unwaitC, unwaitB, hB, hL]; rfl
    rw [hv, hc, ← n1, ← n2]
    clear hv hc n1 n2
    refine sound_body hT Go.Proofs.Try.func37 rfl ?_
    rw [Go.Proofs.Try.results37, Go.Proofs.Try.ntmps37]
    simp only [frame, List.length_cons, List.length_nil, List.replicate, List.cons_append, List.nil_append, Nat.reduceAdd, Nat.reduceSub]
    repeat' (first
    | with_reducible first | refine aw_seq ?_ | refine aw_block ?_ | refine aw_skip ?_ | refine aw_exit ?_
    | with_reducible first | refine aw_ret ?_ | refine thenA_n ?_ | refine thenA_r ?_ | refine thenA_x ?_ | refine blockA_n ?_ | refine blockA_r ?_ | refine blockA_e ?_ | refine blockA_x (by decide) ?_ | refine ends_r ?_ | refine ends_n ?_ | refine ends_rM ?_ | refine ends_nM ?_ | refine aw_reg ?_
    | with_reducible refine al_nil ?_
    | (with_reducible apply aw_cond
       · simp only [go_sem, *]; with_reducible rfl
       all_goals (intro h; try simp only [Bool.not_eq_true', Bool.not_eq_false', reduceCtorEq] at h))
    | (with_reducible apply al_call (f := 81)
       · first | exact gchk_none rfl | simp only [go_sem, *]
       · rfl
       · exact Go.Proofs.Try.call81
       · simp only [go_sem, encRing, zeroRing, *]; with_reducible rfl
       · simp only [go_sem, *]
       · first | assumption | ((with_reducible apply c_spec_l9Copy) <;> first | assumption | rfl)
       · simp only [go_sem]; with_reducible rfl)
    | (with_reducible apply al_call (f := 16)
       · first | exact gchk_none rfl | simp only [go_sem, *]
       · rfl
       · exact Go.Proofs.Try.call16
       · simp only [go_sem, encRing, zeroRing, *]; with_reducible rfl
       · simp only [go_sem, *]
       · first | assumption | ((with_reducible apply c_spec_RingOk) <;> first | assumption | rfl)
       · simp only [go_sem]; with_reducible rfl)
    | (with_reducible apply al_call (f := 66)
       · first | exact gchk_none rfl | simp only [go_sem, *]
       · rfl
       · exact Go.Proofs.Try.call66
       · simp only [go_sem, encRing, zeroRing, *]; with_reducible rfl
       · simp only [go_sem, *]
       · first | assumption | ((with_reducible apply c_spec_l2Has) <;> first | assumption | rfl)
       · simp only [go_sem]; with_reducible rfl)
    | (with_reducible apply al_call (f := 96)
       · first | exact gchk_none rfl | simp only [go_sem, *]
       · rfl
       · exact Go.Proofs.Try.call96
       · simp only [go_sem, encRing, zeroRing, *]; with_reducible rfl
       · simp only [go_sem, *]
       · first | assumption | ((with_reducible apply c_spec_l2Less) <;> first | assumption | rfl)
       · simp only [go_sem]; with_reducible rfl)
    | (with_reducible apply al_s hT true
       · first | exact gchk_none rfl | simp only [go_sem, *]
       · simp only [go_sem, encRing, zeroRing, *]; first | done | with_reducible rfl)
    | (with_reducible apply al_skip
       · simp only [go_sem, *]
       · simp only [go_sem]; with_reducible rfl)
    )
    all_goals ((simp only [go_sem, *]); first | done | rfl)
  · obtain ⟨hL, hG⟩ := hL
    have hv : unwaitR r id = { r with line := r.line.filter fun x => !(x == id), grants := r.grants.filter fun x => !(x == id) } := by simp only [unwaitR, unwaitB, hB, hL, hG]; rfl
    have hc : unwaitC r id = 0 := by simp only [unwaitC, unwaitB, hB, hL, hG]; rfl
    rw [hv, hc, ← n1, ← n2]
    clear hv hc n1 n2
    refine sound_body hT Go.Proofs.Try.func37 rfl ?_
    rw [Go.Proofs.Try.results37, Go.Proofs.Try.ntmps37]
    simp only [frame, List.length_cons, List.length_nil, List.replicate, List.cons_append, List.nil_append, Nat.reduceAdd, Nat.reduceSub]
    repeat' (first
    | with_reducible first | refine aw_seq ?_ | refine aw_block ?_ | refine aw_skip ?_ | refine aw_exit ?_
    | with_reducible first | refine aw_ret ?_ | refine thenA_n ?_ | refine thenA_r ?_ | refine thenA_x ?_ | refine blockA_n ?_ | refine blockA_r ?_ | refine blockA_e ?_ | refine blockA_x (by decide) ?_ | refine ends_r ?_ | refine ends_n ?_ | refine ends_rM ?_ | refine ends_nM ?_ | refine aw_reg ?_
    | with_reducible refine al_nil ?_
    | (with_reducible apply aw_cond
       · simp only [go_sem, *]; with_reducible rfl
       all_goals (intro h; try simp only [Bool.not_eq_true', Bool.not_eq_false', reduceCtorEq] at h))
    | (with_reducible apply al_call (f := 81)
       · first | exact gchk_none rfl | simp only [go_sem, *]
       · rfl
       · exact Go.Proofs.Try.call81
       · simp only [go_sem, encRing, zeroRing, *]; with_reducible rfl
       · simp only [go_sem, *]
       · first | assumption | ((with_reducible apply c_spec_l9Copy) <;> first | assumption | rfl)
       · simp only [go_sem]; with_reducible rfl)
    | (with_reducible apply al_call (f := 16)
       · first | exact gchk_none rfl | simp only [go_sem, *]
       · rfl
       · exact Go.Proofs.Try.call16
       · simp only [go_sem, encRing, zeroRing, *]; with_reducible rfl
       · simp only [go_sem, *]
       · first | assumption | ((with_reducible apply c_spec_RingOk) <;> first | assumption | rfl)
       · simp only [go_sem]; with_reducible rfl)
    | (with_reducible apply al_call (f := 66)
       · first | exact gchk_none rfl | simp only [go_sem, *]
       · rfl
       · exact Go.Proofs.Try.call66
       · simp only [go_sem, encRing, zeroRing, *]; with_reducible rfl
       · simp only [go_sem, *]
       · first | assumption | ((with_reducible apply c_spec_l2Has) <;> first | assumption | rfl)
       · simp only [go_sem]; with_reducible rfl)
    | (with_reducible apply al_call (f := 96)
       · first | exact gchk_none rfl | simp only [go_sem, *]
       · rfl
       · exact Go.Proofs.Try.call96
       · simp only [go_sem, encRing, zeroRing, *]; with_reducible rfl
       · simp only [go_sem, *]
       · first | assumption | ((with_reducible apply c_spec_l2Less) <;> first | assumption | rfl)
       · simp only [go_sem]; with_reducible rfl)
    | (with_reducible apply al_s hT true
       · first | exact gchk_none rfl | simp only [go_sem, *]
       · simp only [go_sem, encRing, zeroRing, *]; first | done | with_reducible rfl)
    )
    all_goals ((simp only [go_sem, *]); first | done | rfl)
theorem ring_len {r : RingV} (h : wRing r ≤ 1048576) : r.line.length ≤ 1048576 ∧ r.grants.length ≤ 1048576 ∧ r.items.length ≤ 1048576 ∧ r.subs.length ≤ 1048576 := by
  simp only [wRing, wMsgS, wSubS, wIntS] at h
  omega
set_option maxHeartbeats 8000000 in
theorem c_laws_FnExactUnwait (r : RingV) (id : Int) {u : AV} (hu : u = encRing false r) (hr : okRing r) : Sound P 8 [u, .int .i64 id] (.bool true) := by
  subst hu
  have h0 : decide ((1048576 : Int) < 0) = false := by decide
  have h1 : (1048576 : Int) ≤ 1048576 := by omega
  rcases szW_cases (wRing r) 1048576 with ⟨hw, hz⟩ | ⟨hw, hz⟩
  · have hwn : wRing r ≤ 1048576 := by omega
    have hw4 : wRing r ≤ 4194304 := by omega
    obtain ⟨l1, l2, l3, _⟩ := ring_len hwn
    have hg : decide ((1048576 : Int) - (wRing r : Int) < 0) = false := decide_eq_false (by omega)
    have hqw := unwait_w r id
    obtain ⟨q, hq⟩ : ∃ q, unwaitR r id = q := ⟨_, rfl⟩
    obtain ⟨c, hc⟩ : ∃ c, unwaitC r id = c := ⟨_, rfl⟩
    rw [hq] at hqw
    have hq4 : wRing q ≤ 4194304 := by omega
    have t1 := mt10Ring r
    have t2 := mt10Ring q
    have hk1 : 1 + ((mtRingW r : Nat) : Int) ≤ 1099511627776 := by omega
    have hb1 : decide (1 + ((mtRingW r : Nat) : Int) < 0) = false := by simp; omega
    have hk2 : 1 + ((mtRingW q : Nat) : Int) ≤ 1099511627776 := by omega
    have hb2 : decide (1 + ((mtRingW q : Nat) : Int) < 0) = false := by simp; omega
    have hp : (0 : Int) ≤ 1 := by omega
    clear hqw t1 t2 hwn
    refine sound_body hT Go.Proofs.Try.func8 rfl ?_
    rw [Go.Proofs.Try.results8, Go.Proofs.Try.ntmps8]
    simp only [frame, List.length_cons, List.length_nil, List.replicate, List.cons_append, List.nil_append, Nat.reduceAdd, Nat.reduceSub]
    repeat' (first
    | with_reducible first | refine aw_seq ?_ | refine aw_block ?_ | refine aw_skip ?_ | refine aw_exit ?_
    | with_reducible first | refine aw_ret ?_ | refine thenA_n ?_ | refine thenA_r ?_ | refine thenA_x ?_ | refine blockA_n ?_ | refine blockA_r ?_ | refine blockA_e ?_ | refine blockA_x (by decide) ?_ | refine ends_r ?_ | refine ends_n ?_ | refine ends_rM ?_ | refine ends_nM ?_ | refine aw_reg ?_
    | (with_reducible apply aw_anyS hT (id := 10) [[], [], [1], [0, 1, 2], [0, 1, 2, 3]] [45, 46, 47, 48, 49]
       · rfl
       · decide +kernel
       · decide +kernel
       · simp only [go_sem, *])
    | with_reducible refine al_nil ?_
    | (with_reducible apply aw_cond
       · simp only [go_sem, *]; with_reducible rfl
       all_goals (intro h; try simp only [Bool.not_eq_true', Bool.not_eq_false', reduceCtorEq] at h))
    | (with_reducible apply al_call (f := 15)
       · first | exact gchk_none rfl | simp only [go_sem, *]
       · rfl
       · exact Go.Proofs.Try.call15
       · simp only [go_sem, encRing, *]; with_reducible rfl
       · simp only [go_sem, *]
       · first | assumption | ((with_reducible apply c_laws_szRing) <;> first | assumption | rfl)
       · simp only [go_sem]; with_reducible rfl)
    | (with_reducible apply al_call (f := 17)
       · first | exact gchk_none rfl | simp only [go_sem, *]
       · rfl
       · exact Go.Proofs.Try.call17
       · simp only [go_sem, encRing, *]; with_reducible rfl
       · simp only [go_sem, *]
       · first | assumption | ((with_reducible apply c_laws_toRing) <;> first | assumption | rfl)
       · simp only [go_sem]; with_reducible rfl)
    | (with_reducible apply al_snap (f := 37)
       · first | exact gchk_none rfl | simp only [go_sem, *]
       · rfl
       · exact Go.Proofs.Try.call37
       · simp only [go_sem, encRing, *]; with_reducible rfl
       · simp only [go_sem, encRing, *]; with_reducible rfl
       · first | assumption | ((with_reducible apply c_spec_Unwait) <;> first | assumption | rfl)
       · simp only [go_sem, *]
       · simp only [go_sem]; with_reducible rfl)
    | (with_reducible apply al_snap (f := 38)
       · first | exact gchk_none rfl | simp only [go_sem, *]
       · rfl
       · exact Go.Proofs.Try.call38
       · simp only [go_sem, encRing, *]; with_reducible rfl
       · simp only [go_sem, encRing, *]; with_reducible rfl
       · first | assumption | ((with_reducible apply c_impl_Unwait) <;> first | assumption | rfl)
       · simp only [go_sem, *]
       · simp only [go_sem]; with_reducible rfl)
    | (with_reducible apply al_snap (f := 19)
       · first | exact gchk_none rfl | simp only [go_sem, *]
       · rfl
       · exact Go.Proofs.Try.call19
       · simp only [go_sem, encRing, *]; with_reducible rfl
       · simp only [go_sem, encRing, *]; with_reducible rfl
       · first | assumption | ((with_reducible apply c_laws_eqRing) <;> first | assumption | rfl)
       · simp only [go_sem, *]
       · simp only [go_sem]; with_reducible rfl)
    | (with_reducible apply al_snap (f := 29)
       · first | exact gchk_none rfl | simp only [go_sem, *]
       · rfl
       · exact Go.Proofs.Try.call29
       · simp only [go_sem, encRing, *]; with_reducible rfl
       · simp only [go_sem, encRing, *]; with_reducible rfl
       · first | assumption | ((with_reducible apply c_laws_heldRing) <;> first | assumption | rfl)
       · simp only [go_sem, *]
       · simp only [go_sem]; with_reducible rfl)
    | (with_reducible apply al_lendV (f := 27) 0
       · exact gchk_none rfl
       · rfl
       · exact Go.Proofs.Try.call27
       · simp only [go_sem, encRing, *]; with_reducible rfl
       · simp only [go_sem]; with_reducible rfl
       · simp only [go_sem]; with_reducible rfl
       · simp only [go_sem]; with_reducible rfl
       · simp only [go_sem, *]
       · simp only [go_sem, encRing, *]; with_reducible rfl
       · simp only [go_sem, encRing, *]
       · simp only [go_sem, *]
       · simp only [go_sem, *]
       · simp only [go_sem]
         (with_reducible apply m_laws_markRing) <;> first | assumption | rfl
       · simp only [go_sem, encRing, *]
       · simp only [go_sem, encRing]; with_reducible rfl)
    | (with_reducible apply al_movetup
       · exact gchk_none rfl
       · rfl
       · simp only [go_sem, *]; with_reducible rfl
       · simp only [go_sem]; with_reducible rfl)
    | with_reducible refine ad_nil ?_
    | (with_reducible apply ad_q hT
       · first | exact gchk_none rfl | simp only [go_sem, *]
       · simp only [go_sem, encRing, *]; first | done | with_reducible rfl
       · simp only [go_sem, *]
       · simp only [go_sem]; with_reducible rfl)
    | (with_reducible apply ad_call (f := 17)
       · first | exact gchk_none rfl | simp only [go_sem, *]
       · rfl
       · exact Go.Proofs.Try.call17
       · simp only [go_sem, encRing, *]; with_reducible rfl
       · simp only [go_sem, *]
       · first | assumption | ((with_reducible apply c_laws_toRing) <;> first | assumption | rfl)
       · simp only [go_sem, *]
       · simp only [go_sem]; with_reducible rfl)
    | (with_reducible apply ad_snap (f := 19)
       · first | exact gchk_none rfl | simp only [go_sem, *]
       · rfl
       · exact Go.Proofs.Try.call19
       · simp only [go_sem, encRing, *]; with_reducible rfl
       · simp only [go_sem, encRing, *]; with_reducible rfl
       · first | assumption | ((with_reducible apply c_laws_eqRing) <;> first | assumption | rfl)
       · simp only [go_sem, *]
       · simp only [go_sem, *]
       · simp only [go_sem]; with_reducible rfl)
    | (with_reducible apply al_s hT true
       · first | exact gchk_none rfl | simp only [go_sem, *]
       · simp only [go_sem, encRing, *]; first | done | with_reducible rfl)
    )
    all_goals ((simp only [go_sem, *]); first | done | rfl)
  · have hg : decide ((-1 : Int) < 0) = true := by decide
    refine sound_body hT Go.Proofs.Try.func8 rfl ?_
    rw [Go.Proofs.Try.results8, Go.Proofs.Try.ntmps8]
    simp only [frame, List.length_cons, List.length_nil, List.replicate, List.cons_append, List.nil_append, Nat.reduceAdd, Nat.reduceSub]
    repeat' (first
    | with_reducible first | refine aw_seq ?_ | refine aw_block ?_ | refine aw_skip ?_ | refine aw_exit ?_
    | with_reducible first | refine aw_ret ?_ | refine thenA_n ?_ | refine thenA_r ?_ | refine thenA_x ?_ | refine blockA_n ?_ | refine blockA_r ?_ | refine blockA_e ?_ | refine blockA_x (by decide) ?_ | refine ends_r ?_ | refine ends_n ?_ | refine ends_rM ?_ | refine ends_nM ?_ | refine aw_reg ?_
    | with_reducible refine al_nil ?_
    | (with_reducible apply aw_cond
       · simp only [go_sem, *]; with_reducible rfl
       all_goals (intro h; try simp only [Bool.not_eq_true', Bool.not_eq_false', reduceCtorEq] at h))
    | (with_reducible apply al_call (f := 15)
       · first | exact gchk_none rfl | simp only [go_sem, *]
       · rfl
       · exact Go.Proofs.Try.call15
       · simp only [go_sem, encRing, *]; with_reducible rfl
       · simp only [go_sem, *]
       · first | assumption | ((with_reducible apply c_laws_szRing) <;> first | assumption | rfl)
       · simp only [go_sem]; with_reducible rfl)
    | (with_reducible apply al_s hT true
       · first | exact gchk_none rfl | simp only [go_sem, *]
       · simp only [go_sem, encRing, *]; first | done | with_reducible rfl)
    )
    all_goals ((simp only [go_sem, *]); first | done | rfl)
end Go.Proofs.Ytcgkejggkenecaa
