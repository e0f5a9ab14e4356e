/- Contracts: SkipTo, of the specification; the law. -/
import Derived.Test.YtcgkejggkenecaaFnSk
import Derived.Test.YtcgkejggkenecaaFnUw
import Derived.Test.YtcgkejggkenecaaFnPx
import Derived.Test.YtcgkejggkenecaaBvAt
namespace Go.Proofs.Ytcgkejggkenecaa
open Go Go.RowKit Go.Bv
set_option linter.unusedSimpArgs false
set_option linter.unusedVariables false
set_option maxRecDepth 4000
set_option maxHeartbeats 8000000

theorem c_spec_SkipTo (r : RingV) (id number : Int) {u : AV} (hu : u = encRing false r) (hr : okRing r) (hw : wRing r ≤ 4194304) (l1 : r.line.length ≤ 1048576) (l2 : r.grants.length ≤ 1048576) (l3 : r.items.length ≤ 1048576) : Sound P 39 [u, .int .i64 id, .int .i64 number] (.tup [encRing true (skipR r id number), .int .i64 (skipC r id number)]) := by
  subst hu
  have m1 : r.line.length < 4611686018427387904 := by omega
  have m2 : r.grants.length < 4611686018427387904 := by omega
  have m3 : r.items.length ≤ 4194304 := by omega
  have hl : r.subs.length < 4611686018427387904 := hr.2.1.1
  cases hB : ringB r
  · have hc : skipC r id number = 1 := by simp [skipC, hB]
    rw [skipR_not (by omega), hc]
    clear hc
    refine sound_body hT Go.Proofs.Try.func39 rfl ?_
    rw [Go.Proofs.Try.results39, Go.Proofs.Try.ntmps39]
    simp only [frame, List.length_cons, List.length_nil, List.replicate, List.cons_append, List.nil_append, Nat.reduceAdd, Nat.reduceSub]
    repeat' (first
    | with_reducible first | refine aw_seq ?_ | refine aw_block ?_ | refine aw_skip ?_ | refine aw_exit ?_
    | with_reducible first | refine aw_ret ?_ | refine thenA_n ?_ | refine thenA_r ?_ | refine thenA_x ?_ | refine blockA_n ?_ | refine blockA_r ?_ | refine blockA_e ?_ | refine blockA_x (by decide) ?_ | refine ends_r ?_ | refine ends_n ?_ | refine ends_rM ?_ | refine ends_nM ?_ | refine aw_reg ?_
    | with_reducible refine al_nil ?_
    | (with_reducible apply aw_cond
       · simp only [go_sem, *]; with_reducible rfl
       all_goals (intro h; try simp only [Bool.not_eq_true', Bool.not_eq_false', reduceCtorEq] at h))
    | (with_reducible apply al_call (f := 81)
       · first | exact gchk_none rfl | simp only [go_sem, *]
       · rfl
       · exact Go.Proofs.Try.call81
       · simp only [go_sem, encRing, zeroRing, *]; with_reducible rfl
       · simp only [go_sem, *]
       · first | assumption | ((with_reducible apply c_spec_l9Copy) <;> first | assumption | rfl)
       · simp only [go_sem]; with_reducible rfl)
    | (with_reducible apply al_call (f := 65)
       · first | exact gchk_none rfl | simp only [go_sem, *]
       · rfl
       · exact Go.Proofs.Try.call65
       · simp only [go_sem, encRing, zeroRing, *]; with_reducible rfl
       · simp only [go_sem, *]
       · first | assumption | ((with_reducible apply c_spec_l9At) <;> first | assumption | rfl)
       · simp only [go_sem]; with_reducible rfl)
    | (with_reducible apply al_call (f := 16)
       · first | exact gchk_none rfl | simp only [go_sem, *]
       · rfl
       · exact Go.Proofs.Try.call16
       · simp only [go_sem, encRing, zeroRing, *]; with_reducible rfl
       · simp only [go_sem, *]
       · first | assumption | ((with_reducible apply c_spec_RingOk) <;> first | assumption | rfl)
       · simp only [go_sem]; with_reducible rfl)
    | (with_reducible apply al_s hT true
       · first | exact gchk_none rfl | simp only [go_sem, *]
       · simp only [go_sem, encRing, zeroRing, *]; first | done | with_reducible rfl)
    )
    all_goals ((simp only [go_sem, *]); first | done | rfl)
  by_cases hneg : atI r.subs id < 0
  · have hc : skipC r id number = 3 := by simp [skipC, hB, hneg]
    rw [skipR_not (by omega), hc]
    clear hc
    have hg : decide (atI r.subs id < 0) = true := decide_eq_true hneg
    refine sound_body hT Go.Proofs.Try.func39 rfl ?_
    rw [Go.Proofs.Try.results39, Go.Proofs.Try.ntmps39]
    simp only [frame, List.length_cons, List.length_nil, List.replicate, List.cons_append, List.nil_append, Nat.reduceAdd, Nat.reduceSub]
    repeat' (first
    | with_reducible first | refine aw_seq ?_ | refine aw_block ?_ | refine aw_skip ?_ | refine aw_exit ?_
    | with_reducible first | refine aw_ret ?_ | refine thenA_n ?_ | refine thenA_r ?_ | refine thenA_x ?_ | refine blockA_n ?_ | refine blockA_r ?_ | refine blockA_e ?_ | refine blockA_x (by decide) ?_ | refine ends_r ?_ | refine ends_n ?_ | refine ends_rM ?_ | refine ends_nM ?_ | refine aw_reg ?_
    | with_reducible refine al_nil ?_
    | (with_reducible apply aw_cond
       · simp only [go_sem, *]; with_reducible rfl
       all_goals (intro h; try simp only [Bool.not_eq_true', Bool.not_eq_false', reduceCtorEq] at h))
    | (with_reducible apply al_call (f := 81)
       · first | exact gchk_none rfl | simp only [go_sem, *]
       · rfl
       · exact Go.Proofs.Try.call81
       · simp only [go_sem, encRing, zeroRing, *]; with_reducible rfl
       · simp only [go_sem, *]
       · first | assumption | ((with_reducible apply c_spec_l9Copy) <;> first | assumption | rfl)
       · simp only [go_sem]; with_reducible rfl)
    | (with_reducible apply al_call (f := 65)
       · first | exact gchk_none rfl | simp only [go_sem, *]
       · rfl
       · exact Go.Proofs.Try.call65
       · simp only [go_sem, encRing, zeroRing, *]; with_reducible rfl
       · simp only [go_sem, *]
       · first | assumption | ((with_reducible apply c_spec_l9At) <;> first | assumption | rfl)
       · simp only [go_sem]; with_reducible rfl)
    | (with_reducible apply al_call (f := 16)
       · first | exact gchk_none rfl | simp only [go_sem, *]
       · rfl
       · exact Go.Proofs.Try.call16
       · simp only [go_sem, encRing, zeroRing, *]; with_reducible rfl
       · simp only [go_sem, *]
       · first | assumption | ((with_reducible apply c_spec_RingOk) <;> first | assumption | rfl)
       · simp only [go_sem]; with_reducible rfl)
    | (with_reducible apply al_s hT true
       · first | exact gchk_none rfl | simp only [go_sem, *]
       · simp only [go_sem, encRing, zeroRing, *]; first | done | with_reducible rfl)
    )
    all_goals ((simp only [go_sem, *]); first | done | rfl)
  obtain ⟨k, s, hk, hkl, hks, _⟩ := atI_at (f := r.subs) (id := id) (by omega)
  have hg : decide ((k : Int) < 0) = false := decide_eq_false (by omega)
  have hk0 : (0 : Int) ≤ (k : Int) := by omega
  have hk1 : (k : Int) < (r.subs.length : Int) := by omega
  rcases (by cases r.line.any (· == id) <;> cases r.grants.any (· == id) <;> simp : (r.line.any (· == id) = false ∧ r.grants.any (· == id) = false) ∨ r.line.any (· == id) = true ∨ (r.line.any (· == id) = false ∧ r.grants.any (· == id) = true)) with hL | hL | hL
  rotate_left
  · have hc : skipC r id number = 5 := by simp only [skipC, hB, if_true, if_neg hneg, unwaitB, hL, Bool.true_or]
    rw [skipR_not (by omega), hc]
    clear hc hneg
    refine sound_body hT Go.Proofs.Try.func39 rfl ?_
    rw [Go.Proofs.Try.results39, Go.Proofs.Try.ntmps39]
    simp only [frame, List.length_cons, List.length_nil, List.replicate, List.cons_append, List.nil_append, Nat.reduceAdd, Nat.reduceSub]
    repeat' (first
    | with_reducible first | refine aw_seq ?_ | refine aw_block ?_ | refine aw_skip ?_ | refine aw_exit ?_
    | with_reducible first | refine aw_ret ?_ | refine thenA_n ?_ | refine thenA_r ?_ | refine thenA_x ?_ | refine blockA_n ?_ | refine blockA_r ?_ | refine blockA_e ?_ | refine blockA_x (by decide) ?_ | refine ends_r ?_ | refine ends_n ?_ | refine ends_rM ?_ | refine ends_nM ?_ | refine aw_reg ?_
    | with_reducible refine al_nil ?_
    | (with_reducible apply aw_cond
       · simp only [go_sem, *]; with_reducible rfl
       all_goals (intro h; try simp only [Bool.not_eq_true', Bool.not_eq_false', reduceCtorEq] at h))
    | (with_reducible apply al_call (f := 81)
       · first | exact gchk_none rfl | simp only [go_sem, *]
       · rfl
       · exact Go.Proofs.Try.call81
       · simp only [go_sem, encRing, zeroRing, *]; with_reducible rfl
       · simp only [go_sem, *]
       · first | assumption | ((with_reducible apply c_spec_l9Copy) <;> first | assumption | rfl)
       · simp only [go_sem]; with_reducible rfl)
    | (with_reducible apply al_call (f := 65)
       · first | exact gchk_none rfl | simp only [go_sem, *]
       · rfl
       · exact Go.Proofs.Try.call65
       · simp only [go_sem, encRing, zeroRing, *]; with_reducible rfl
       · simp only [go_sem, *]
       · first | assumption | ((with_reducible apply c_spec_l9At) <;> first | assumption | rfl)
       · simp only [go_sem]; with_reducible rfl)
    | (with_reducible apply al_call (f := 16)
       · first | exact gchk_none rfl | simp only [go_sem, *]
       · rfl
       · exact Go.Proofs.Try.call16
       · simp only [go_sem, encRing, zeroRing, *]; with_reducible rfl
       · simp only [go_sem, *]
       · first | assumption | ((with_reducible apply c_spec_RingOk) <;> first | assumption | rfl)
       · simp only [go_sem]; with_reducible rfl)
    | (with_reducible apply al_call (f := 66)
       · first | exact gchk_none rfl | simp only [go_sem, *]
       · rfl
       · exact Go.Proofs.Try.call66
       · simp only [go_sem, encRing, zeroRing, *]; with_reducible rfl
       · simp only [go_sem, *]
       · first | assumption | ((with_reducible apply c_spec_l2Has) <;> first | assumption | rfl)
       · simp only [go_sem]; with_reducible rfl)
    | (with_reducible apply al_s hT true
       · first | exact gchk_none rfl | simp only [go_sem, *]
       · simp only [go_sem, encRing, zeroRing, *]; first | done | with_reducible rfl)
    | (with_reducible apply al_skip
       · simp only [go_sem, *]
       · simp only [go_sem]; with_reducible rfl)
    )
    all_goals ((simp only [go_sem, *]); first | done | rfl)
  · obtain ⟨hL, hG⟩ := hL
    have hc : skipC r id number = 5 := by simp only [skipC, hB, if_true, if_neg hneg, unwaitB, hL, hG, Bool.false_or]
    rw [skipR_not (by omega), hc]
    clear hc hneg
    refine sound_body hT Go.Proofs.Try.func39 rfl ?_
    rw [Go.Proofs.Try.results39, Go.Proofs.Try.ntmps39]
    simp only [frame, List.length_cons, List.length_nil, List.replicate, List.cons_append, List.nil_append, Nat.reduceAdd, Nat.reduceSub]
    repeat' (first
    | with_reducible first | refine aw_seq ?_ | refine aw_block ?_ | refine aw_skip ?_ | refine aw_exit ?_
    | with_reducible first | refine aw_ret ?_ | refine thenA_n ?_ | refine thenA_r ?_ | refine thenA_x ?_ | refine blockA_n ?_ | refine blockA_r ?_ | refine blockA_e ?_ | refine blockA_x (by decide) ?_ | refine ends_r ?_ | refine ends_n ?_ | refine ends_rM ?_ | refine ends_nM ?_ | refine aw_reg ?_
    | with_reducible refine al_nil ?_
    | (with_reducible apply aw_cond
       · simp only [go_sem, *]; with_reducible rfl
       all_goals (intro h; try simp only [Bool.not_eq_true', Bool.not_eq_false', reduceCtorEq] at h))
    | (with_reducible apply al_call (f := 81)
       · first | exact gchk_none rfl | simp only [go_sem, *]
       · rfl
       · exact Go.Proofs.Try.call81
       · simp only [go_sem, encRing, zeroRing, *]; with_reducible rfl
       · simp only [go_sem, *]
       · first | assumption | ((with_reducible apply c_spec_l9Copy) <;> first | assumption | rfl)
       · simp only [go_sem]; with_reducible rfl)
    | (with_reducible apply al_call (f := 65)
       · first | exact gchk_none rfl | simp only [go_sem, *]
       · rfl
       · exact Go.Proofs.Try.call65
       · simp only [go_sem, encRing, zeroRing, *]; with_reducible rfl
       · simp only [go_sem, *]
       · first | assumption | ((with_reducible apply c_spec_l9At) <;> first | assumption | rfl)
       · simp only [go_sem]; with_reducible rfl)
    | (with_reducible apply al_call (f := 16)
       · first | exact gchk_none rfl | simp only [go_sem, *]
       · rfl
       · exact Go.Proofs.Try.call16
       · simp only [go_sem, encRing, zeroRing, *]; with_reducible rfl
       · simp only [go_sem, *]
       · first | assumption | ((with_reducible apply c_spec_RingOk) <;> first | assumption | rfl)
       · simp only [go_sem]; with_reducible rfl)
    | (with_reducible apply al_call (f := 66)
       · first | exact gchk_none rfl | simp only [go_sem, *]
       · rfl
       · exact Go.Proofs.Try.call66
       · simp only [go_sem, encRing, zeroRing, *]; with_reducible rfl
       · simp only [go_sem, *]
       · first | assumption | ((with_reducible apply c_spec_l2Has) <;> first | assumption | rfl)
       · simp only [go_sem]; with_reducible rfl)
    | (with_reducible apply al_s hT true
       · first | exact gchk_none rfl | simp only [go_sem, *]
       · simp only [go_sem, encRing, zeroRing, *]; first | done | with_reducible rfl)
    )
    all_goals ((simp only [go_sem, *]); first | done | rfl)
  obtain ⟨hL, hG⟩ := hL
  have hcu : curI r id = s.cursor := by simp only [curI, hk, Int.toNat_natCast, hks]
  by_cases hin : s.cursor ≤ number ∧ number ≤ r.sent
  rotate_left
  · have hW : (decide (number ≥ s.cursor) && decide (number ≤ r.sent)) = false := by rw [← Bool.not_eq_true, Bool.and_eq_true, decide_eq_true_eq, decide_eq_true_eq]; exact hin
    have hc : skipC r id number = 6 := by simp only [skipC, hB, if_true, if_neg hneg, unwaitB, hL, hG, Bool.or_self, Bool.false_eq_true, if_false, hcu, hW]
    rw [skipR_not (by omega), hc]
    by_cases hlo : number < s.cursor
    · have hd : decide (number < s.cursor) = true := decide_eq_true hlo
      clear hc hneg hcu hin hlo
      refine sound_body hT Go.Proofs.Try.func39 rfl ?_
      rw [Go.Proofs.Try.results39, Go.Proofs.Try.ntmps39]
      simp only [frame, List.length_cons, List.length_nil, List.replicate, List.cons_append, List.nil_append, Nat.reduceAdd, Nat.reduceSub]
      repeat' (first
      | with_reducible first | refine aw_seq ?_ | refine aw_block ?_ | refine aw_skip ?_ | refine aw_exit ?_
      | with_reducible first | refine aw_ret ?_ | refine thenA_n ?_ | refine thenA_r ?_ | refine thenA_x ?_ | refine blockA_n ?_ | refine blockA_r ?_ | refine blockA_e ?_ | refine blockA_x (by decide) ?_ | refine ends_r ?_ | refine ends_n ?_ | refine ends_rM ?_ | refine ends_nM ?_ | refine aw_reg ?_
      | with_reducible refine al_nil ?_
      | (with_reducible apply aw_cond
         · simp only [go_sem, *]; with_reducible rfl
         all_goals (intro h; try simp only [Bool.not_eq_true', Bool.not_eq_false', reduceCtorEq] at h))
      | (with_reducible apply al_call (f := 81)
         · first | exact gchk_none rfl | simp only [go_sem, *]
         · rfl
         · exact Go.Proofs.Try.call81
         · simp only [go_sem, encRing, encSub, zeroRing, *]; with_reducible rfl
         · simp only [go_sem, *]
         · first | assumption | ((with_reducible apply c_spec_l9Copy) <;> first | assumption | rfl)
         · simp only [go_sem]; with_reducible rfl)
      | (with_reducible apply al_call (f := 65)
         · first | exact gchk_none rfl | simp only [go_sem, *]
         · rfl
         · exact Go.Proofs.Try.call65
         · simp only [go_sem, encRing, encSub, zeroRing, *]; with_reducible rfl
         · simp only [go_sem, *]
         · first | assumption | ((with_reducible apply c_spec_l9At) <;> first | assumption | rfl)
         · simp only [go_sem]; with_reducible rfl)
      | (with_reducible apply al_call (f := 16)
         · first | exact gchk_none rfl | simp only [go_sem, *]
         · rfl
         · exact Go.Proofs.Try.call16
         · simp only [go_sem, encRing, encSub, zeroRing, *]; with_reducible rfl
         · simp only [go_sem, *]
         · first | assumption | ((with_reducible apply c_spec_RingOk) <;> first | assumption | rfl)
         · simp only [go_sem]; with_reducible rfl)
      | (with_reducible apply al_call (f := 66)
         · first | exact gchk_none rfl | simp only [go_sem, *]
         · rfl
         · exact Go.Proofs.Try.call66
         · simp only [go_sem, encRing, encSub, zeroRing, *]; with_reducible rfl
         · simp only [go_sem, *]
         · first | assumption | ((with_reducible apply c_spec_l2Has) <;> first | assumption | rfl)
         · simp only [go_sem]; with_reducible rfl)
      | (with_reducible apply al_s hT true
         · first | exact gchk_none rfl | simp only [go_sem, *]
         · simp only [go_sem, encRing, encSub, zeroRing, *]; first | done | with_reducible rfl)
      | (with_reducible apply al_skip
         · simp only [go_sem, *]
         · simp only [go_sem]; with_reducible rfl)
      )
      all_goals ((simp only [go_sem, *]); first | done | rfl)
    · have hd : decide (number < s.cursor) = false := decide_eq_false hlo
      have hd2 : decide (number > r.sent) = true := decide_eq_true (by omega)
      clear hc hneg hcu hin hlo
      refine sound_body hT Go.Proofs.Try.func39 rfl ?_
      rw [Go.Proofs.Try.results39, Go.Proofs.Try.ntmps39]
      simp only [frame, List.length_cons, List.length_nil, List.replicate, List.cons_append, List.nil_append, Nat.reduceAdd, Nat.reduceSub]
      repeat' (first
      | with_reducible first | refine aw_seq ?_ | refine aw_block ?_ | refine aw_skip ?_ | refine aw_exit ?_
      | with_reducible first | refine aw_ret ?_ | refine thenA_n ?_ | refine thenA_r ?_ | refine thenA_x ?_ | refine blockA_n ?_ | refine blockA_r ?_ | refine blockA_e ?_ | refine blockA_x (by decide) ?_ | refine ends_r ?_ | refine ends_n ?_ | refine ends_rM ?_ | refine ends_nM ?_ | refine aw_reg ?_
      | with_reducible refine al_nil ?_
      | (with_reducible apply aw_cond
         · simp only [go_sem, *]; with_reducible rfl
         all_goals (intro h; try simp only [Bool.not_eq_true', Bool.not_eq_false', reduceCtorEq] at h))
      | (with_reducible apply al_call (f := 81)
         · first | exact gchk_none rfl | simp only [go_sem, *]
         · rfl
         · exact Go.Proofs.Try.call81
         · simp only [go_sem, encRing, encSub, zeroRing, *]; with_reducible rfl
         · simp only [go_sem, *]
         · first | assumption | ((with_reducible apply c_spec_l9Copy) <;> first | assumption | rfl)
         · simp only [go_sem]; with_reducible rfl)
      | (with_reducible apply al_call (f := 65)
         · first | exact gchk_none rfl | simp only [go_sem, *]
         · rfl
         · exact Go.Proofs.Try.call65
         · simp only [go_sem, encRing, encSub, zeroRing, *]; with_reducible rfl
         · simp only [go_sem, *]
         · first | assumption | ((with_reducible apply c_spec_l9At) <;> first | assumption | rfl)
         · simp only [go_sem]; with_reducible rfl)
      | (with_reducible apply al_call (f := 16)
         · first | exact gchk_none rfl | simp only [go_sem, *]
         · rfl
         · exact Go.Proofs.Try.call16
         · simp only [go_sem, encRing, encSub, zeroRing, *]; with_reducible rfl
         · simp only [go_sem, *]
         · first | assumption | ((with_reducible apply c_spec_RingOk) <;> first | assumption | rfl)
         · simp only [go_sem]; with_reducible rfl)
      | (with_reducible apply al_call (f := 66)
         · first | exact gchk_none rfl | simp only [go_sem, *]
         · rfl
         · exact Go.Proofs.Try.call66
         · simp only [go_sem, encRing, encSub, zeroRing, *]; with_reducible rfl
         · simp only [go_sem, *]
         · first | assumption | ((with_reducible apply c_spec_l2Has) <;> first | assumption | rfl)
         · simp only [go_sem]; with_reducible rfl)
      | (with_reducible apply al_s hT true
         · first | exact gchk_none rfl | simp only [go_sem, *]
         · simp only [go_sem, encRing, encSub, zeroRing, *]; first | done | with_reducible rfl)
      )
      all_goals ((simp only [go_sem, *]); first | done | rfl)
  obtain ⟨hin, hin2⟩ := hin
  have hW : (decide (number ≥ s.cursor) && decide (number ≤ r.sent)) = true := by rw [Bool.and_eq_true, decide_eq_true_eq, decide_eq_true_eq]; exact ⟨hin, hin2⟩
  have hd : decide (number < s.cursor) = false := decide_eq_false (by omega)
  have hd2 : decide (number > r.sent) = false := decide_eq_false (by omega)
  have hc : skipC r id number = 0 := by simp only [skipC, hB, if_true, if_neg hneg, unwaitB, hL, hG, Bool.or_self, Bool.false_eq_true, if_false, hcu, hW]
  have hI := ringIs hB
  have hs := hI.at hks
  obtain ⟨g1, g2, g3, hF⟩ := skip_fit (id := id) hr hI hks hin
  rw [skipR_at hc hk hks hF.t, hc]
  have := hI.cap1; have := hI.cap2; have := hI.sent1; have := hI.sent2; have := hs.start; have := hs.cur1; have := hs.cur2; have := hs.lost1; have := hs.lost2; have := hs.pass1; have := hs.pass2
  have hb1 : -9223372036854775808 ≤ r.sent - r.cap := by omega
  have hb2 : r.sent - r.cap ≤ 9223372036854775807 := by omega
  obtain ⟨G, hGd⟩ : ∃ G, skipG r s number = G := ⟨_, rfl⟩
  obtain ⟨Ql, hQl⟩ : ∃ Q, s.lost + G = Q := ⟨_, rfl⟩
  obtain ⟨Qp, hQp⟩ : ∃ Q, s.passed + (number - s.cursor - G) = Q := ⟨_, rfl⟩
  have hGr : 0 ≤ G ∧ G ≤ number - s.cursor := by rw [← hGd]; simp only [skipG, goneI]; repeat' split
                                                 all_goals omega
  rw [hGd, hQl, hQp] at hF
  have w1 : IntKind.i64.wrap (r.sent - r.cap) = r.sent - r.cap := by rw [wrap_small] <;> omega
  have w3 : IntKind.i64.wrap (s.lost + G) = Ql := by rw [hQl, wrap_small] <;> omega
  have w4 : IntKind.i64.wrap (s.passed + number) = s.passed + number := by rw [wrap_small] <;> omega
  have w5 : IntKind.i64.wrap (s.passed + number - s.cursor) = s.passed + number - s.cursor := by rw [wrap_small] <;> omega
  have w6 : IntKind.i64.wrap (s.passed + number - s.cursor - G) = Qp := by rw [wrap_small] <;> omega
  have e1 : (r.subs.map (encSub true)).set k (.agg [.int .i64 s.id, .int .i64 s.start, .int .i64 s.cursor, .int .i64 s.got, .int .i64 Ql, .int .i64 s.passed, .lst true 3 (s.filter.map encT)]) = g1.map (encSub true) := hF.t1.map true
  have e2 : (g1.map (encSub true)).set k (.agg [.int .i64 s.id, .int .i64 s.start, .int .i64 s.cursor, .int .i64 s.got, .int .i64 Ql, .int .i64 Qp, .lst true 3 (s.filter.map encT)]) = g2.map (encSub true) := hF.t2.map true
  have e3 : (g2.map (encSub true)).set k (.agg [.int .i64 s.id, .int .i64 s.start, .int .i64 number, .int .i64 s.got, .int .i64 Ql, .int .i64 Qp, .lst true 3 (s.filter.map encT)]) = g3.map (encSub true) := hF.t3.map true
  have a1 := hF.t1.got
  have a2 := hF.t2.got
  have a3 := hF.t3.got
  have z1 := hF.t1.len
  have z2 := hF.t2.len
  have z3 := hF.t3.len
  have ho := hF.ok
  have f1 := hF.f1
  have f2 := hF.f2
  rcases (by simp only [← hGd, skipG, goneI]; repeat' split
             all_goals omega : (number < r.sent - r.cap ∧ number - s.cursor = G) ∨ (r.sent - r.cap ≤ number ∧ r.sent - r.cap - s.cursor < 0 ∧ G = 0) ∨ (r.sent - r.cap ≤ number ∧ 0 ≤ r.sent - r.cap - s.cursor ∧ r.sent - r.cap - s.cursor = G)) with ⟨c1, c2⟩ | ⟨c1, c2, c3⟩ | ⟨c1, c2, c3⟩
  · have d1 : decide (r.sent - r.cap > number) = true := decide_eq_true c1
    have w2 : IntKind.i64.wrap (number - s.cursor) = G := by rw [c2, wrap_small] <;> omega
    have d2 : decide (G < 0) = false := decide_eq_false (by omega)
    clear hc hneg hcu hin hin2 hF hI hs hGd hGr hQl hQp c1 c2 hW
    refine sound_body hT Go.Proofs.Try.func39 rfl ?_
    rw [Go.Proofs.Try.results39, Go.Proofs.Try.ntmps39]
    simp only [frame, List.length_cons, List.length_nil, List.replicate, List.cons_append, List.nil_append, Nat.reduceAdd, Nat.reduceSub]
    repeat' (first
    | with_reducible first | refine aw_seq ?_ | refine aw_block ?_ | refine aw_skip ?_ | refine aw_exit ?_
    | with_reducible first | refine aw_ret ?_ | refine thenA_n ?_ | refine thenA_r ?_ | refine thenA_x ?_ | refine blockA_n ?_ | refine blockA_r ?_ | refine blockA_e ?_ | refine blockA_x (by decide) ?_ | refine ends_r ?_ | refine ends_n ?_ | refine ends_rM ?_ | refine ends_nM ?_ | refine aw_reg ?_
    | (with_reducible apply aw_anyT hT (id := 17) [[], [0], [], [], [3], [], [3, 4, 5], [3, 4, 5, 6], [3, 4, 5, 6, 7], [], [3, 4, 5, 6, 7, 8, 9], [0, 1, 2, 3, 4, 5, 6, 7, 8, 9, 10], [0, 1, 2, 3, 4, 5, 6, 7, 8, 9, 10, 11], [0, 1, 2, 3, 4, 5, 6, 7, 8, 9, 10, 11, 12]] 11 [72, 73, 74, 75, 76, 77, 78, 79, 80, 81, 82]
       · simp only [List.take_succ_cons, List.take_zero]; with_reducible rfl
       · simp only [List.drop_succ_cons, List.drop_zero]; with_reducible rfl
       · rfl
       · decide +kernel
       · decide +kernel
       · decide +kernel
       · simp only [go_sem, *])
    | (with_reducible apply aw_anyT hT (id := 18) [[], [0], [], [], [3], [], [3, 4, 5], [3, 4, 5, 6], [3, 4, 5, 6, 7], [], [3, 4, 5, 6, 7, 8, 9], [], [11], [], [11, 12, 13], [11, 12, 13, 14], [11, 12, 13, 14, 15], [3, 4, 5, 6, 7, 8, 9, 10, 11, 12, 13, 14, 15, 16], [], [3, 4, 5, 6, 7, 8, 9, 10, 11, 12, 13, 14, 15, 16, 17, 18], [0, 1, 2, 3, 4, 5, 6, 7, 8, 9, 10, 11, 12, 13, 14, 15, 16, 17, 18, 19], [0, 1, 2, 3, 4, 5, 6, 7, 8, 9, 10, 11, 12, 13, 14, 15, 16, 17, 18, 19, 20], [0, 1, 2, 3, 4, 5, 6, 7, 8, 9, 10, 11, 12, 13, 14, 15, 16, 17, 18, 19, 20, 21]] 20 [85, 86, 87, 88, 89, 90, 91, 92, 93, 94, 95, 96, 97, 98, 99, 100, 101, 102, 103, 104]
       · simp only [List.take_succ_cons, List.take_zero]; with_reducible rfl
       · simp only [List.drop_succ_cons, List.drop_zero]; with_reducible rfl
       · rfl
       · decide +kernel
       · decide +kernel
       · decide +kernel
       · simp only [go_sem, *])
    | with_reducible refine al_nil ?_
    | (with_reducible apply aw_cond
       · simp only [go_sem, *]; with_reducible rfl
       all_goals (intro h; try simp only [Bool.not_eq_true', Bool.not_eq_false', reduceCtorEq] at h))
    | (with_reducible apply al_call (f := 81)
       · first | exact gchk_none rfl | simp only [go_sem, *]
       · rfl
       · exact Go.Proofs.Try.call81
       · simp only [go_sem, encRing, encSub, zeroRing, *]; with_reducible rfl
       · simp only [go_sem, *]
       · first | assumption | ((with_reducible apply c_spec_l9Copy) <;> first | assumption | rfl)
       · simp only [go_sem]; with_reducible rfl)
    | (with_reducible apply al_call (f := 65)
       · first | exact gchk_none rfl | simp only [go_sem, *]
       · rfl
       · exact Go.Proofs.Try.call65
       · simp only [go_sem, encRing, encSub, zeroRing, *]; with_reducible rfl
       · simp only [go_sem, *]
       · first | assumption | ((with_reducible apply c_spec_l9At) <;> first | assumption | rfl)
       · simp only [go_sem]; with_reducible rfl)
    | (with_reducible apply al_call (f := 16)
       · first | exact gchk_none rfl | simp only [go_sem, *]
       · rfl
       · exact Go.Proofs.Try.call16
       · simp only [go_sem, encRing, encSub, zeroRing, *]; with_reducible rfl
       · simp only [go_sem, *]
       · first | assumption | ((with_reducible apply c_spec_RingOk) <;> first | assumption | rfl)
       · simp only [go_sem]; with_reducible rfl)
    | (with_reducible apply al_call (f := 66)
       · first | exact gchk_none rfl | simp only [go_sem, *]
       · rfl
       · exact Go.Proofs.Try.call66
       · simp only [go_sem, encRing, encSub, zeroRing, *]; with_reducible rfl
       · simp only [go_sem, *]
       · first | assumption | ((with_reducible apply c_spec_l2Has) <;> first | assumption | rfl)
       · simp only [go_sem]; with_reducible rfl)
    | (with_reducible apply al_mv (f := 99)
       · exact gchk_none rfl
       · rfl
       · exact Go.Proofs.Try.call99
       · simp only [go_sem, encRing, encSub, zeroRing, *]; with_reducible rfl
       · simp only [go_sem, *]
       · simp only [go_sem, encRing, encSub, zeroRing, *]; with_reducible rfl
       · simp only [go_sem, encRing, encSub, zeroRing, *]; with_reducible rfl
       · first | assumption | ((with_reducible apply c_spec_l9Trim) <;> first | assumption | rfl)
       · simp only [go_sem, *]
       · simp only [go_sem]; with_reducible rfl)
    | with_reducible refine ad_nil ?_
    | (with_reducible apply ad_q hT
       · first | exact gchk_none rfl | simp only [go_sem, *]
       · simp only [go_sem, encRing, encSub, zeroRing, *]; first | done | with_reducible rfl
       · simp only [go_sem, *]
       · simp only [go_sem]; with_reducible rfl)
    | (with_reducible apply al_s hT true
       · first | exact gchk_none rfl | simp only [go_sem, *]
       · simp only [go_sem, encRing, encSub, zeroRing, *]; first | done | with_reducible rfl)
    )
    all_goals ((simp only [go_sem, *]); first | done | rfl)
  · subst c3
    have q1 : Ql = s.lost := by omega
    have q2 : Qp = s.passed + number - s.cursor := by omega
    subst q1 q2
    have w3' : IntKind.i64.wrap s.lost = s.lost := by rw [wrap_small] <;> omega
    have d1 : decide (r.sent - r.cap > number) = false := decide_eq_false (by omega)
    have w2 : IntKind.i64.wrap (r.sent - r.cap - s.cursor) = r.sent - r.cap - s.cursor := by rw [wrap_small] <;> omega
    have d2 : decide (r.sent - r.cap - s.cursor < 0) = true := decide_eq_true c2
    clear hc hneg hcu hin hin2 hF hI hs hGd hGr hQl hQp c1 c2 hW
    refine sound_body hT Go.Proofs.Try.func39 rfl ?_
    rw [Go.Proofs.Try.results39, Go.Proofs.Try.ntmps39]
    simp only [frame, List.length_cons, List.length_nil, List.replicate, List.cons_append, List.nil_append, Nat.reduceAdd, Nat.reduceSub]
    repeat' (first
    | with_reducible first | refine aw_seq ?_ | refine aw_block ?_ | refine aw_skip ?_ | refine aw_exit ?_
    | with_reducible first | refine aw_ret ?_ | refine thenA_n ?_ | refine thenA_r ?_ | refine thenA_x ?_ | refine blockA_n ?_ | refine blockA_r ?_ | refine blockA_e ?_ | refine blockA_x (by decide) ?_ | refine ends_r ?_ | refine ends_n ?_ | refine ends_rM ?_ | refine ends_nM ?_ | refine aw_reg ?_
    | (with_reducible apply aw_anyT hT (id := 17) [[], [0], [], [], [3], [], [3, 4, 5], [3, 4, 5, 6], [3, 4, 5, 6, 7], [], [3, 4, 5, 6, 7, 8, 9], [0, 1, 2, 3, 4, 5, 6, 7, 8, 9, 10], [0, 1, 2, 3, 4, 5, 6, 7, 8, 9, 10, 11], [0, 1, 2, 3, 4, 5, 6, 7, 8, 9, 10, 11, 12]] 11 [72, 73, 74, 75, 76, 77, 78, 79, 80, 81, 82]
       · simp only [List.take_succ_cons, List.take_zero]; with_reducible rfl
       · simp only [List.drop_succ_cons, List.drop_zero]; with_reducible rfl
       · rfl
       · decide +kernel
       · decide +kernel
       · decide +kernel
       · simp only [go_sem, *])
    | (with_reducible apply aw_anyT hT (id := 18) [[], [0], [], [], [3], [], [3, 4, 5], [3, 4, 5, 6], [3, 4, 5, 6, 7], [], [3, 4, 5, 6, 7, 8, 9], [], [11], [], [11, 12, 13], [11, 12, 13, 14], [11, 12, 13, 14, 15], [3, 4, 5, 6, 7, 8, 9, 10, 11, 12, 13, 14, 15, 16], [], [3, 4, 5, 6, 7, 8, 9, 10, 11, 12, 13, 14, 15, 16, 17, 18], [0, 1, 2, 3, 4, 5, 6, 7, 8, 9, 10, 11, 12, 13, 14, 15, 16, 17, 18, 19], [0, 1, 2, 3, 4, 5, 6, 7, 8, 9, 10, 11, 12, 13, 14, 15, 16, 17, 18, 19, 20], [0, 1, 2, 3, 4, 5, 6, 7, 8, 9, 10, 11, 12, 13, 14, 15, 16, 17, 18, 19, 20, 21]] 20 [85, 86, 87, 88, 89, 90, 91, 92, 93, 94, 95, 96, 97, 98, 99, 100, 101, 102, 103, 104]
       · simp only [List.take_succ_cons, List.take_zero]; with_reducible rfl
       · simp only [List.drop_succ_cons, List.drop_zero]; with_reducible rfl
       · rfl
       · decide +kernel
       · decide +kernel
       · decide +kernel
       · simp only [go_sem, *])
    | with_reducible refine al_nil ?_
    | (with_reducible apply aw_cond
       · simp only [go_sem, *]; with_reducible rfl
       all_goals (intro h; try simp only [Bool.not_eq_true', Bool.not_eq_false', reduceCtorEq] at h))
    | (with_reducible apply al_call (f := 81)
       · first | exact gchk_none rfl | simp only [go_sem, *]
       · rfl
       · exact Go.Proofs.Try.call81
       · simp only [go_sem, encRing, encSub, zeroRing, *]; with_reducible rfl
       · simp only [go_sem, *]
       · first | assumption | ((with_reducible apply c_spec_l9Copy) <;> first | assumption | rfl)
       · simp only [go_sem]; with_reducible rfl)
    | (with_reducible apply al_call (f := 65)
       · first | exact gchk_none rfl | simp only [go_sem, *]
       · rfl
       · exact Go.Proofs.Try.call65
       · simp only [go_sem, encRing, encSub, zeroRing, *]; with_reducible rfl
       · simp only [go_sem, *]
       · first | assumption | ((with_reducible apply c_spec_l9At) <;> first | assumption | rfl)
       · simp only [go_sem]; with_reducible rfl)
    | (with_reducible apply al_call (f := 16)
       · first | exact gchk_none rfl | simp only [go_sem, *]
       · rfl
       · exact Go.Proofs.Try.call16
       · simp only [go_sem, encRing, encSub, zeroRing, *]; with_reducible rfl
       · simp only [go_sem, *]
       · first | assumption | ((with_reducible apply c_spec_RingOk) <;> first | assumption | rfl)
       · simp only [go_sem]; with_reducible rfl)
    | (with_reducible apply al_call (f := 66)
       · first | exact gchk_none rfl | simp only [go_sem, *]
       · rfl
       · exact Go.Proofs.Try.call66
       · simp only [go_sem, encRing, encSub, zeroRing, *]; with_reducible rfl
       · simp only [go_sem, *]
       · first | assumption | ((with_reducible apply c_spec_l2Has) <;> first | assumption | rfl)
       · simp only [go_sem]; with_reducible rfl)
    | (with_reducible apply al_mv (f := 99)
       · exact gchk_none rfl
       · rfl
       · exact Go.Proofs.Try.call99
       · simp only [go_sem, encRing, encSub, zeroRing, *]; with_reducible rfl
       · simp only [go_sem, *]
       · simp only [go_sem, encRing, encSub, zeroRing, *]; with_reducible rfl
       · simp only [go_sem, encRing, encSub, zeroRing, *]; with_reducible rfl
       · first | assumption | ((with_reducible apply c_spec_l9Trim) <;> first | assumption | rfl)
       · simp only [go_sem, *]
       · simp only [go_sem]; with_reducible rfl)
    | with_reducible refine ad_nil ?_
    | (with_reducible apply ad_q hT
       · first | exact gchk_none rfl | simp only [go_sem, *]
       · simp only [go_sem, encRing, encSub, zeroRing, *]; first | done | with_reducible rfl
       · simp only [go_sem, *]
       · simp only [go_sem]; with_reducible rfl)
    | (with_reducible apply al_s hT true
       · first | exact gchk_none rfl | simp only [go_sem, *]
       · simp only [go_sem, encRing, encSub, zeroRing, *]; first | done | with_reducible rfl)
    )
    all_goals ((simp only [go_sem, *]); first | done | rfl)
  · have d1 : decide (r.sent - r.cap > number) = false := decide_eq_false (by omega)
    have w2 : IntKind.i64.wrap (r.sent - r.cap - s.cursor) = G := by rw [c3, wrap_small] <;> omega
    have d2 : decide (G < 0) = false := decide_eq_false (by omega)
    clear hc hneg hcu hin hin2 hF hI hs hGd hGr hQl hQp c1 c2 c3 hW
    refine sound_body hT Go.Proofs.Try.func39 rfl ?_
    rw [Go.Proofs.Try.results39, Go.Proofs.Try.ntmps39]
    simp only [frame, List.length_cons, List.length_nil, List.replicate, List.cons_append, List.nil_append, Nat.reduceAdd, Nat.reduceSub]
    repeat' (first
    | with_reducible first | refine aw_seq ?_ | refine aw_block ?_ | refine aw_skip ?_ | refine aw_exit ?_
    | with_reducible first | refine aw_ret ?_ | refine thenA_n ?_ | refine thenA_r ?_ | refine thenA_x ?_ | refine blockA_n ?_ | refine blockA_r ?_ | refine blockA_e ?_ | refine blockA_x (by decide) ?_ | refine ends_r ?_ | refine ends_n ?_ | refine ends_rM ?_ | refine ends_nM ?_ | refine aw_reg ?_
    | (with_reducible apply aw_anyT hT (id := 17) [[], [0], [], [], [3], [], [3, 4, 5], [3, 4, 5, 6], [3, 4, 5, 6, 7], [], [3, 4, 5, 6, 7, 8, 9], [0, 1, 2, 3, 4, 5, 6, 7, 8, 9, 10], [0, 1, 2, 3, 4, 5, 6, 7, 8, 9, 10, 11], [0, 1, 2, 3, 4, 5, 6, 7, 8, 9, 10, 11, 12]] 11 [72, 73, 74, 75, 76, 77, 78, 79, 80, 81, 82]
       · simp only [List.take_succ_cons, List.take_zero]; with_reducible rfl
       · simp only [List.drop_succ_cons, List.drop_zero]; with_reducible rfl
       · rfl
       · decide +kernel
       · decide +kernel
       · decide +kernel
       · simp only [go_sem, *])
    | (with_reducible apply aw_anyT hT (id := 18) [[], [0], [], [], [3], [], [3, 4, 5], [3, 4, 5, 6], [3, 4, 5, 6, 7], [], [3, 4, 5, 6, 7, 8, 9], [], [11], [], [11, 12, 13], [11, 12, 13, 14], [11, 12, 13, 14, 15], [3, 4, 5, 6, 7, 8, 9, 10, 11, 12, 13, 14, 15, 16], [], [3, 4, 5, 6, 7, 8, 9, 10, 11, 12, 13, 14, 15, 16, 17, 18], [0, 1, 2, 3, 4, 5, 6, 7, 8, 9, 10, 11, 12, 13, 14, 15, 16, 17, 18, 19], [0, 1, 2, 3, 4, 5, 6, 7, 8, 9, 10, 11, 12, 13, 14, 15, 16, 17, 18, 19, 20], [0, 1, 2, 3, 4, 5, 6, 7, 8, 9, 10, 11, 12, 13, 14, 15, 16, 17, 18, 19, 20, 21]] 20 [85, 86, 87, 88, 89, 90, 91, 92, 93, 94, 95, 96, 97, 98, 99, 100, 101, 102, 103, 104]
       · simp only [List.take_succ_cons, List.take_zero]; with_reducible rfl
       · simp only [List.drop_succ_cons, List.drop_zero]; with_reducible rfl
       · rfl
       · decide +kernel
       · decide +kernel
       · decide +kernel
       · simp only [go_sem, *])
    | with_reducible refine al_nil ?_
    | (with_reducible apply aw_cond
       · simp only [go_sem, *]; with_reducible rfl
       all_goals (intro h; try simp only [Bool.not_eq_true', Bool.not_eq_false', reduceCtorEq] at h))
    | (with_reducible apply al_call (f := 81)
       · first | exact gchk_none rfl | simp only [go_sem, *]
       · rfl
       · exact Go.Proofs.Try.call81
       · simp only [go_sem, encRing, encSub, zeroRing, *]; with_reducible rfl
       · simp only [go_sem, *]
       · first | assumption | ((with_reducible apply c_spec_l9Copy) <;> first | assumption | rfl)
       · simp only [go_sem]; with_reducible rfl)
    | (with_reducible apply al_call (f := 65)
       · first | exact gchk_none rfl | simp only [go_sem, *]
       · rfl
       · exact Go.Proofs.Try.call65
       · simp only [go_sem, encRing, encSub, zeroRing, *]; with_reducible rfl
       · simp only [go_sem, *]
       · first | assumption | ((with_reducible apply c_spec_l9At) <;> first | assumption | rfl)
       · simp only [go_sem]; with_reducible rfl)
    | (with_reducible apply al_call (f := 16)
       · first | exact gchk_none rfl | simp only [go_sem, *]
       · rfl
       · exact Go.Proofs.Try.call16
       · simp only [go_sem, encRing, encSub, zeroRing, *]; with_reducible rfl
       · simp only [go_sem, *]
       · first | assumption | ((with_reducible apply c_spec_RingOk) <;> first | assumption | rfl)
       · simp only [go_sem]; with_reducible rfl)
    | (with_reducible apply al_call (f := 66)
       · first | exact gchk_none rfl | simp only [go_sem, *]
       · rfl
       · exact Go.Proofs.Try.call66
       · simp only [go_sem, encRing, encSub, zeroRing, *]; with_reducible rfl
       · simp only [go_sem, *]
       · first | assumption | ((with_reducible apply c_spec_l2Has) <;> first | assumption | rfl)
       · simp only [go_sem]; with_reducible rfl)
    | (with_reducible apply al_mv (f := 99)
       · exact gchk_none rfl
       · rfl
       · exact Go.Proofs.Try.call99
       · simp only [go_sem, encRing, encSub, zeroRing, *]; with_reducible rfl
       · simp only [go_sem, *]
       · simp only [go_sem, encRing, encSub, zeroRing, *]; with_reducible rfl
       · simp only [go_sem, encRing, encSub, zeroRing, *]; with_reducible rfl
       · first | assumption | ((with_reducible apply c_spec_l9Trim) <;> first | assumption | rfl)
       · simp only [go_sem, *]
       · simp only [go_sem]; with_reducible rfl)
    | with_reducible refine ad_nil ?_
    | (with_reducible apply ad_q hT
       · first | exact gchk_none rfl | simp only [go_sem, *]
       · simp only [go_sem, encRing, encSub, zeroRing, *]; first | done | with_reducible rfl
       · simp only [go_sem, *]
       · simp only [go_sem]; with_reducible rfl)
    | (with_reducible apply al_s hT true
       · first | exact gchk_none rfl | simp only [go_sem, *]
       · simp only [go_sem, encRing, encSub, zeroRing, *]; first | done | with_reducible rfl)
    )
    all_goals ((simp only [go_sem, *]); first | done | rfl)
theorem c_laws_FnExactSkipTo (r : RingV) (id number : Int) {u : AV} (hu : u = encRing false r) (hr : okRing r) : Sound P 9 [u, .int .i64 id, .int .i64 number] (.bool true) := by
  subst hu
  have h0 : decide ((1048576 : Int) < 0) = false := by decide
  have h1 : (1048576 : Int) ≤ 1048576 := by omega
  rcases szW_cases (wRing r) 1048576 with ⟨hw, hz⟩ | ⟨hw, hz⟩
  · have hwn : wRing r ≤ 1048576 := by omega
    have hw4 : wRing r ≤ 4194304 := by omega
    obtain ⟨l1, l2, l3, _⟩ := ring_len hwn
    have hg : decide ((1048576 : Int) - (wRing r : Int) < 0) = false := decide_eq_false (by omega)
    have hqw := skip_w r id number
    obtain ⟨q, hq⟩ : ∃ q, skipR r id number = q := ⟨_, rfl⟩
    obtain ⟨c, hc⟩ : ∃ c, skipC r id number = c := ⟨_, rfl⟩
    rw [hq] at hqw
    have hq4 : wRing q ≤ 4194304 := by omega
    have t1 := mt10Ring r
    have t2 := mt10Ring q
    have hk1 : 1 + ((mtRingW r : Nat) : Int) ≤ 1099511627776 := by omega
    have hb1 : decide (1 + ((mtRingW r : Nat) : Int) < 0) = false := by simp; omega
    have hk2 : 1 + ((mtRingW q : Nat) : Int) ≤ 1099511627776 := by omega
    have hb2 : decide (1 + ((mtRingW q : Nat) : Int) < 0) = false := by simp; omega
    have hp : (0 : Int) ≤ 1 := by omega
    clear hqw t1 t2 hwn
    refine sound_body hT Go.Proofs.Try.func9 rfl ?_
    rw [Go.Proofs.Try.results9, Go.Proofs.Try.ntmps9]
    simp only [frame, List.length_cons, List.length_nil, List.replicate, List.cons_append, List.nil_append, Nat.reduceAdd, Nat.reduceSub]
    repeat' (first
    | with_reducible first | refine aw_seq ?_ | refine aw_block ?_ | refine aw_skip ?_ | refine aw_exit ?_
    | with_reducible first | refine aw_ret ?_ | refine thenA_n ?_ | refine thenA_r ?_ | refine thenA_x ?_ | refine blockA_n ?_ | refine blockA_r ?_ | refine blockA_e ?_ | refine blockA_x (by decide) ?_ | refine ends_r ?_ | refine ends_n ?_ | refine ends_rM ?_ | refine ends_nM ?_ | refine aw_reg ?_
    | (with_reducible apply aw_anyS hT (id := 10) [[], [], [1], [0, 1, 2], [0, 1, 2, 3]] [49, 50, 51, 52, 53]
       · rfl
       · decide +kernel
       · decide +kernel
       · simp only [go_sem, *])
    | with_reducible refine al_nil ?_
    | (with_reducible apply aw_cond
       · simp only [go_sem, *]; with_reducible rfl
       all_goals (intro h; try simp only [Bool.not_eq_true', Bool.not_eq_false', reduceCtorEq] at h))
    | (with_reducible apply al_call (f := 15)
       · first | exact gchk_none rfl | simp only [go_sem, *]
       · rfl
       · exact Go.Proofs.Try.call15
       · simp only [go_sem, encRing, *]; with_reducible rfl
       · simp only [go_sem, *]
       · first | assumption | ((with_reducible apply c_laws_szRing) <;> first | assumption | rfl)
       · simp only [go_sem]; with_reducible rfl)
    | (with_reducible apply al_call (f := 17)
       · first | exact gchk_none rfl | simp only [go_sem, *]
       · rfl
       · exact Go.Proofs.Try.call17
       · simp only [go_sem, encRing, *]; with_reducible rfl
       · simp only [go_sem, *]
       · first | assumption | ((with_reducible apply c_laws_toRing) <;> first | assumption | rfl)
       · simp only [go_sem]; with_reducible rfl)
    | (with_reducible apply al_snap (f := 39)
       · first | exact gchk_none rfl | simp only [go_sem, *]
       · rfl
       · exact Go.Proofs.Try.call39
       · simp only [go_sem, encRing, *]; with_reducible rfl
       · simp only [go_sem, encRing, *]; with_reducible rfl
       · first | assumption | ((with_reducible apply c_spec_SkipTo) <;> first | assumption | rfl)
       · simp only [go_sem, *]
       · simp only [go_sem]; with_reducible rfl)
    | (with_reducible apply al_snap (f := 40)
       · first | exact gchk_none rfl | simp only [go_sem, *]
       · rfl
       · exact Go.Proofs.Try.call40
       · simp only [go_sem, encRing, *]; with_reducible rfl
       · simp only [go_sem, encRing, *]; with_reducible rfl
       · first | assumption | ((with_reducible apply c_impl_SkipTo) <;> first | assumption | rfl)
       · simp only [go_sem, *]
       · simp only [go_sem]; with_reducible rfl)
    | (with_reducible apply al_snap (f := 19)
       · first | exact gchk_none rfl | simp only [go_sem, *]
       · rfl
       · exact Go.Proofs.Try.call19
       · simp only [go_sem, encRing, *]; with_reducible rfl
       · simp only [go_sem, encRing, *]; with_reducible rfl
       · first | assumption | ((with_reducible apply c_laws_eqRing) <;> first | assumption | rfl)
       · simp only [go_sem, *]
       · simp only [go_sem]; with_reducible rfl)
    | (with_reducible apply al_snap (f := 29)
       · first | exact gchk_none rfl | simp only [go_sem, *]
       · rfl
       · exact Go.Proofs.Try.call29
       · simp only [go_sem, encRing, *]; with_reducible rfl
       · simp only [go_sem, encRing, *]; with_reducible rfl
       · first | assumption | ((with_reducible apply c_laws_heldRing) <;> first | assumption | rfl)
       · simp only [go_sem, *]
       · simp only [go_sem]; with_reducible rfl)
    | (with_reducible apply al_lendV (f := 27) 0
       · exact gchk_none rfl
       · rfl
       · exact Go.Proofs.Try.call27
       · simp only [go_sem, encRing, *]; with_reducible rfl
       · simp only [go_sem]; with_reducible rfl
       · simp only [go_sem]; with_reducible rfl
       · simp only [go_sem]; with_reducible rfl
       · simp only [go_sem, *]
       · simp only [go_sem, encRing, *]; with_reducible rfl
       · simp only [go_sem, encRing, *]
       · simp only [go_sem, *]
       · simp only [go_sem, *]
       · simp only [go_sem]
         (with_reducible apply m_laws_markRing) <;> first | assumption | rfl
       · simp only [go_sem, encRing, *]
       · simp only [go_sem, encRing]; with_reducible rfl)
    | (with_reducible apply al_movetup
       · exact gchk_none rfl
       · rfl
       · simp only [go_sem, *]; with_reducible rfl
       · simp only [go_sem]; with_reducible rfl)
    | with_reducible refine ad_nil ?_
    | (with_reducible apply ad_q hT
       · first | exact gchk_none rfl | simp only [go_sem, *]
       · simp only [go_sem, encRing, *]; first | done | with_reducible rfl
       · simp only [go_sem, *]
       · simp only [go_sem]; with_reducible rfl)
    | (with_reducible apply ad_call (f := 17)
       · first | exact gchk_none rfl | simp only [go_sem, *]
       · rfl
       · exact Go.Proofs.Try.call17
       · simp only [go_sem, encRing, *]; with_reducible rfl
       · simp only [go_sem, *]
       · first | assumption | ((with_reducible apply c_laws_toRing) <;> first | assumption | rfl)
       · simp only [go_sem, *]
       · simp only [go_sem]; with_reducible rfl)
    | (with_reducible apply ad_snap (f := 19)
       · first | exact gchk_none rfl | simp only [go_sem, *]
       · rfl
       · exact Go.Proofs.Try.call19
       · simp only [go_sem, encRing, *]; with_reducible rfl
       · simp only [go_sem, encRing, *]; with_reducible rfl
       · first | assumption | ((with_reducible apply c_laws_eqRing) <;> first | assumption | rfl)
       · simp only [go_sem, *]
       · simp only [go_sem, *]
       · simp only [go_sem]; with_reducible rfl)
    | (with_reducible apply al_s hT true
       · first | exact gchk_none rfl | simp only [go_sem, *]
       · simp only [go_sem, encRing, *]; first | done | with_reducible rfl)
    )
    all_goals ((simp only [go_sem, *]); first | done | rfl)
  · have hg : decide ((-1 : Int) < 0) = true := by decide
    refine sound_body hT Go.Proofs.Try.func9 rfl ?_
    rw [Go.Proofs.Try.results9, Go.Proofs.Try.ntmps9]
    simp only [frame, List.length_cons, List.length_nil, List.replicate, List.cons_append, List.nil_append, Nat.reduceAdd, Nat.reduceSub]
    repeat' (first
    | with_reducible first | refine aw_seq ?_ | refine aw_block ?_ | refine aw_skip ?_ | refine aw_exit ?_
    | with_reducible first | refine aw_ret ?_ | refine thenA_n ?_ | refine thenA_r ?_ | refine thenA_x ?_ | refine blockA_n ?_ | refine blockA_r ?_ | refine blockA_e ?_ | refine blockA_x (by decide) ?_ | refine ends_r ?_ | refine ends_n ?_ | refine ends_rM ?_ | refine ends_nM ?_ | refine aw_reg ?_
    | with_reducible refine al_nil ?_
    | (with_reducible apply aw_cond
       · simp only [go_sem, *]; with_reducible rfl
       all_goals (intro h; try simp only [Bool.not_eq_true', Bool.not_eq_false', reduceCtorEq] at h))
    | (with_reducible apply al_call (f := 15)
       · first | exact gchk_none rfl | simp only [go_sem, *]
       · rfl
       · exact Go.Proofs.Try.call15
       · simp only [go_sem, encRing, *]; with_reducible rfl
       · simp only [go_sem, *]
       · first | assumption | ((with_reducible apply c_laws_szRing) <;> first | assumption | rfl)
       · simp only [go_sem]; with_reducible rfl)
    | (with_reducible apply al_s hT true
       · first | exact gchk_none rfl | simp only [go_sem, *]
       · simp only [go_sem, encRing, *]; first | done | with_reducible rfl)
    )
    all_goals ((simp only [go_sem, *]); first | done | rfl)
end Go.Proofs.Ytcgkejggkenecaa
