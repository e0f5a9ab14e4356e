/- Contracts: CloseRing, of the specification; the law. -/
import Derived.Test.YtcgkejggkenecaaFnCi
import Derived.Test.YtcgkejggkenecaaFnUw
import Derived.Test.YtcgkejggkenecaaBvAt
namespace Go.Proofs.Ytcgkejggkenecaa
open Go Go.RowKit Go.Bv
set_option linter.unusedSimpArgs false
set_option linter.unusedVariables false
set_option maxRecDepth 4000
set_option maxHeartbeats 8000000
-- TAGRET spec.CloseRing 2 [5] 1

theorem c_spec_CloseRing (r : RingV) {u : AV} (hu : u = encRing false r) (hr : okRing r) (hw : wRing r ≤ 4194304) (h1 : r.line.length ≤ 1048576) (h2 : r.grants.length ≤ 1048576) (h5 : r.items.length ≤ 1048576) : Sound P 24 [u] (.tup [encRing true (closeR r), .lst true 1 ((closeL r).map encInt), .int .i64 (closeC r)]) := by
  subst hu
  have h3 : r.line.length ≤ 4194304 := by omega
  cases hB : ringB r
  · have hv : closeR r = r := by simp [closeR, closeB, hB]
    have hl : closeL r = [] := by simp [closeL, closeB, hB]
    have hc : closeC r = 1 := by simp [closeC, hB]
    rw [hv, hc, hl]
    clear hv hc hl
    refine sound_body hT Go.Proofs.Try.func24 rfl ?_
    rw [Go.Proofs.Try.results24, Go.Proofs.Try.ntmps24]
    simp only [frame, List.length_cons, List.length_nil, List.replicate, List.cons_append, List.nil_append, Nat.reduceAdd, Nat.reduceSub]
    repeat' (first
    | with_reducible first | refine aw_seq ?_ | refine aw_block ?_ | refine aw_skip ?_ | refine aw_exit ?_
    | with_reducible first | refine aw_ret ?_ | refine thenA_n ?_ | refine thenA_r ?_ | refine thenA_x ?_ | refine blockA_n ?_ | refine blockA_r ?_ | refine blockA_e ?_ | refine blockA_x (by decide) ?_ | refine ends_r ?_ | refine ends_n ?_ | refine ends_rM ?_ | refine ends_nM ?_ | refine aw_reg ?_
    | with_reducible refine al_nil ?_
    | (with_reducible apply aw_cond
       · simp only [go_sem, *]; with_reducible rfl
       all_goals (intro h; try simp only [Bool.not_eq_true', Bool.not_eq_false', reduceCtorEq] at h))
    | (with_reducible apply al_call (f := 81)
       · first | exact gchk_none rfl | simp only [go_sem, *]
       · rfl
       · exact Go.Proofs.Try.call81
       · simp only [go_sem, encRing, zeroRing, *]; with_reducible rfl
       · simp only [go_sem, *]
       · first | assumption | ((with_reducible apply c_spec_l9Copy) <;> first | assumption | rfl)
       · simp only [go_sem]; with_reducible rfl)
    | (with_reducible apply al_call (f := 16)
       · first | exact gchk_none rfl | simp only [go_sem, *]
       · rfl
       · exact Go.Proofs.Try.call16
       · simp only [go_sem, encRing, zeroRing, *]; with_reducible rfl
       · simp only [go_sem, *]
       · first | assumption | ((with_reducible apply c_spec_RingOk) <;> first | assumption | rfl)
       · simp only [go_sem]; with_reducible rfl)
    | (with_reducible apply al_anil hT
       · exact gchk_none rfl
       · rfl
       · simp only [go_sem]; first | done | with_reducible rfl
       · simp only [go_sem]; with_reducible rfl)
    | (with_reducible apply al_s hT false
       · first | exact gchk_none rfl | simp only [go_sem, *]
       · simp only [go_sem, encRing, zeroRing, *]; first | done | with_reducible rfl)
    )
    all_goals ((simp only [go_sem, *]); first | done | rfl)
  have hpa : plAs (r.grants.map encInt ++ r.line.map encInt) = true := by rw [← List.map_append]; exact plAs_Int _
  refine sound_body hT Go.Proofs.Try.func24 rfl ?_
  rw [Go.Proofs.Try.results24, Go.Proofs.Try.ntmps24]
  simp only [frame, List.length_cons, List.length_nil, List.replicate, List.cons_append, List.nil_append, Nat.reduceAdd, Nat.reduceSub]
  repeat' (first
  | with_reducible first | refine aw_seq ?_ | refine aw_block ?_ | refine aw_skip ?_ | refine aw_exit ?_
  | (with_reducible apply aw_ret_tag (r := 2) (p := [5]) 1
     · simp only [go_sem]; with_reducible rfl
     · simp only [go_sem, *]
     · simp only [go_sem]; first | done | with_reducible rfl
     · simp only [go_sem]; with_reducible rfl)
  | with_reducible first | refine aw_ret ?_ | refine thenA_n ?_ | refine thenA_r ?_ | refine thenA_x ?_ | refine blockA_n ?_ | refine blockA_r ?_ | refine blockA_e ?_ | refine blockA_x (by decide) ?_ | refine ends_r ?_ | refine ends_n ?_ | refine ends_rM ?_ | refine ends_nM ?_ | refine aw_reg ?_
  | (with_reducible apply aw_anyT hT (id := 9) [[], [], [1], [1, 2], [0, 1, 2, 3], [0, 1, 2, 3, 4], [0, 1, 2, 3, 4, 5]] 4 [25, 26, 27, 28]
     · simp only [List.take_succ_cons, List.take_zero]; with_reducible rfl
     · simp only [List.drop_succ_cons, List.drop_zero]; with_reducible rfl
     · rfl
     · decide +kernel
     · decide +kernel
     · decide +kernel
     · simp only [go_sem, *])
  | with_reducible refine al_nil ?_
  | (with_reducible apply aw_cond
     · simp only [go_sem, *]; with_reducible rfl
     all_goals (intro h; try simp only [Bool.not_eq_true', Bool.not_eq_false', reduceCtorEq] at h))
  | (with_reducible apply al_call (f := 81)
     · first | exact gchk_none rfl | simp only [go_sem, *]
     · rfl
     · exact Go.Proofs.Try.call81
     · simp only [go_sem, encRing, zeroRing, *]; with_reducible rfl
     · simp only [go_sem, *]
     · first | assumption | ((with_reducible apply c_spec_l9Copy) <;> first | assumption | rfl)
     · simp only [go_sem]; with_reducible rfl)
  | (with_reducible apply al_call (f := 16)
     · first | exact gchk_none rfl | simp only [go_sem, *]
     · rfl
     · exact Go.Proofs.Try.call16
     · simp only [go_sem, encRing, zeroRing, *]; with_reducible rfl
     · simp only [go_sem, *]
     · first | assumption | ((with_reducible apply c_spec_RingOk) <;> first | assumption | rfl)
     · simp only [go_sem]; with_reducible rfl)
  | (with_reducible apply al_append hT
     · exact gchk_none rfl
     · rfl
     · simp only [go_sem]; first | done | with_reducible rfl
     · simp only [go_sem]
     · simp only [go_sem]; first | done | with_reducible rfl
     · simp only [go_sem]
     · simp only [go_sem, encRing, zeroRing, *]; with_reducible rfl
     · simp only [go_sem, encRing, zeroRing, *]; with_reducible rfl
     · simp only [go_sem, *]
     · simp only [go_sem, encRing, zeroRing, *]; with_reducible rfl
     · simp only [go_sem, encRing, zeroRing, *]; with_reducible rfl
     · simp only [go_sem, *]
     · simp only [go_sem]; first | done | omega
     · simp only [go_sem]; first | done | omega
     · simp only [go_sem]; with_reducible rfl)
  | (with_reducible apply al_anil hT
     · exact gchk_none rfl
     · rfl
     · simp only [go_sem]; first | done | with_reducible rfl
     · simp only [go_sem]; with_reducible rfl)
  | with_reducible refine ad_nil ?_
  | (with_reducible apply ad_q hT
     · first | exact gchk_none rfl | simp only [go_sem, *]
     · simp only [go_sem, encRing, zeroRing, *]; first | done | with_reducible rfl
     · simp only [go_sem, *]
     · simp only [go_sem]; with_reducible rfl)
  | (with_reducible apply ad_call (f := 64)
     · first | exact gchk_none rfl | simp only [go_sem, *]
     · rfl
     · exact Go.Proofs.Try.call64
     · simp only [go_sem, encRing, zeroRing, *]; with_reducible rfl
     · simp only [go_sem, *]
     · first | assumption | ((with_reducible apply c_spec_l2Copy) <;> first | assumption | rfl)
     · simp only [go_sem, *]
     · simp only [go_sem]; with_reducible rfl)
  | (with_reducible apply al_s hT false
     · first | exact gchk_none rfl | simp only [go_sem, *]
     · simp only [go_sem, encRing, zeroRing, *]; first | done | with_reducible rfl)
  )
  all_goals (
    simp only [closeR, closeL, closeC, closeB, hB, h, Bool.not_true, Bool.not_false, Bool.and_true, Bool.and_false, if_true, Bool.false_eq_true, if_false, encRing, List.map_append]
    (simp only [go_sem, *])
    first | done | rfl)
set_option maxHeartbeats 8000000 in
theorem c_laws_FnExactCloseRing (r : RingV) {u : AV} (hu : u = encRing false r) (hr : okRing r) : Sound P 6 [u] (.bool true) := by
  subst hu
  have h0 : decide ((1048576 : Int) < 0) = false := by decide
  have h1 : (1048576 : Int) ≤ 1048576 := by omega
  rcases szW_cases (wRing r) 1048576 with ⟨hw, hz⟩ | ⟨hw, hz⟩
  · have hwn : wRing r ≤ 1048576 := by omega
    have hw4 : wRing r ≤ 4194304 := by omega
    obtain ⟨l1, l2, l3, _⟩ := ring_len hwn
    have hg : decide ((1048576 : Int) - (wRing r : Int) < 0) = false := decide_eq_false (by omega)
    have hqw := close_w r
    have hLw := close_l r
    obtain ⟨q, hq⟩ : ∃ q, closeR r = q := ⟨_, rfl⟩
    obtain ⟨L, hL⟩ : ∃ L, closeL r = L := ⟨_, rfl⟩
    obtain ⟨c, hc⟩ : ∃ c, closeC r = c := ⟨_, rfl⟩
    rw [hq] at hqw
    rw [hL] at hLw
    have hq4 : wRing q ≤ 4194304 := by omega
    have hL4 : wIntS L ≤ 4194304 := by omega
    have t1 := mt10Ring r
    have t2 := mt10Ring q
    have t3 := mw10IntS L
    have hk1 : 1 + ((mtRingW r : Nat) : Int) ≤ 1099511627776 := by omega
    have hb1 : decide (1 + ((mtRingW r : Nat) : Int) < 0) = false := decide_eq_false (by omega)
    have hk2 : 1 + ((mtRingW q : Nat) : Int) ≤ 1099511627776 := by omega
    have hb2 : decide (1 + ((mtRingW q : Nat) : Int) < 0) = false := decide_eq_false (by omega)
    have hk3 : 0 ≤ 1 + ((mtRingW q : Nat) : Int) := by omega
    have hk4 : 1 + ((mtRingW q : Nat) : Int) + ((mwIntS L : Nat) : Int) ≤ 1099511627776 := by omega
    have hb3 : decide (1 + ((mtRingW q : Nat) : Int) + ((mwIntS L : Nat) : Int) < 0) = false := decide_eq_false (by omega)
    have hp : (0 : Int) ≤ 1 := by omega
    have htk : List.take L.length (List.map encInt (mkIntS L (1 + ((mtRingW q : Nat) : Int)))) = List.map encInt (mkIntS L (1 + ((mtRingW q : Nat) : Int))) := List.take_of_length_le (by rw [List.length_map, show (mkIntS L (1 + ((mtRingW q : Nat) : Int))).length = L.length from mkL_len _ _ _ _]; exact Nat.le_refl _)
    clear hqw hLw t1 t2 t3 hwn
    refine sound_body hT Go.Proofs.Try.func6 rfl ?_
    rw [Go.Proofs.Try.results6, Go.Proofs.Try.ntmps6]
    simp only [frame, List.length_cons, List.length_nil, List.replicate, List.cons_append, List.nil_append, Nat.reduceAdd, Nat.reduceSub]
    repeat' (first
    | with_reducible first | refine aw_seq ?_ | refine aw_block ?_ | refine aw_skip ?_ | refine aw_exit ?_
    | with_reducible first | refine aw_ret ?_ | refine thenA_n ?_ | refine thenA_r ?_ | refine thenA_x ?_ | refine blockA_n ?_ | refine blockA_r ?_ | refine blockA_e ?_ | refine blockA_x (by decide) ?_ | refine ends_r ?_ | refine ends_n ?_ | refine ends_rM ?_ | refine ends_nM ?_ | refine aw_reg ?_
    | (with_reducible apply aw_anyS hT (id := 10) [[], [], [1], [0, 1, 2], [0, 1, 2, 3]] [52, 53, 54, 55, 56]
       · rfl
       · decide +kernel
       · decide +kernel
       · simp only [go_sem, *])
    | with_reducible refine al_nil ?_
    | (with_reducible apply aw_cond
       · simp only [go_sem, *]; with_reducible rfl
       all_goals (intro h; try simp only [Bool.not_eq_true', Bool.not_eq_false', reduceCtorEq] at h))
    | (with_reducible apply al_call (f := 15)
       · first | exact gchk_none rfl | simp only [go_sem, *]
       · rfl
       · exact Go.Proofs.Try.call15
       · simp only [go_sem, encRing, *]; with_reducible rfl
       · simp only [go_sem, *]
       · first | assumption | ((with_reducible apply c_laws_szRing) <;> first | assumption | rfl)
       · simp only [go_sem]; with_reducible rfl)
    | (with_reducible apply al_call (f := 17)
       · first | exact gchk_none rfl | simp only [go_sem, *]
       · rfl
       · exact Go.Proofs.Try.call17
       · simp only [go_sem, encRing, *]; with_reducible rfl
       · simp only [go_sem, *]
       · first | assumption | ((with_reducible apply c_laws_toRing) <;> first | assumption | rfl)
       · simp only [go_sem]; with_reducible rfl)
    | (with_reducible apply al_snap (f := 24)
       · first | exact gchk_none rfl | simp only [go_sem, *]
       · rfl
       · exact Go.Proofs.Try.call24
       · simp only [go_sem, encRing, *]; with_reducible rfl
       · simp only [go_sem, encRing, *]; with_reducible rfl
       · first | assumption | ((with_reducible apply c_spec_CloseRing) <;> first | assumption | rfl)
       · simp only [go_sem, *]
       · simp only [go_sem]; with_reducible rfl)
    | (with_reducible apply al_snap (f := 25)
       · first | exact gchk_none rfl | simp only [go_sem, *]
       · rfl
       · exact Go.Proofs.Try.call25
       · simp only [go_sem, encRing, *]; with_reducible rfl
       · simp only [go_sem, encRing, *]; with_reducible rfl
       · first | assumption | ((with_reducible apply c_impl_CloseRing) <;> first | assumption | rfl)
       · simp only [go_sem, *]
       · simp only [go_sem]; with_reducible rfl)
    | (with_reducible apply al_snap (f := 19)
       · first | exact gchk_none rfl | simp only [go_sem, *]
       · rfl
       · exact Go.Proofs.Try.call19
       · simp only [go_sem, encRing, *]; with_reducible rfl
       · simp only [go_sem, encRing, *]; with_reducible rfl
       · first | assumption | ((with_reducible apply c_laws_eqRing) <;> first | assumption | rfl)
       · simp only [go_sem, *]
       · simp only [go_sem]; with_reducible rfl)
    | (with_reducible apply al_snap (f := 26)
       · first | exact gchk_none rfl | simp only [go_sem, *]
       · rfl
       · exact Go.Proofs.Try.call26
       · simp only [go_sem, encRing, *]; with_reducible rfl
       · simp only [go_sem, encRing, *]; with_reducible rfl
       · first | assumption | ((with_reducible apply c_laws_eqIntS) <;> first | assumption | rfl)
       · simp only [go_sem, *]
       · simp only [go_sem]; with_reducible rfl)
    | (with_reducible apply al_snap (f := 29)
       · first | exact gchk_none rfl | simp only [go_sem, *]
       · rfl
       · exact Go.Proofs.Try.call29
       · simp only [go_sem, encRing, *]; with_reducible rfl
       · simp only [go_sem, encRing, *]; with_reducible rfl
       · first | assumption | ((with_reducible apply c_laws_heldRing) <;> first | assumption | rfl)
       · simp only [go_sem, *]
       · simp only [go_sem]; with_reducible rfl)
    | (with_reducible apply al_snap (f := 30)
       · first | exact gchk_none rfl | simp only [go_sem, *]
       · rfl
       · exact Go.Proofs.Try.call30
       · simp only [go_sem, encRing, *]; with_reducible rfl
       · simp only [go_sem, encRing, *]; with_reducible rfl
       · first | assumption | ((with_reducible apply c_laws_heldIntS) <;> first | assumption | rfl)
       · simp only [go_sem, *]
       · simp only [go_sem]; with_reducible rfl)
    | (with_reducible apply al_lendV (f := 27) 0
       · exact gchk_none rfl
       · rfl
       · exact Go.Proofs.Try.call27
       · simp only [go_sem, encRing, *]; with_reducible rfl
       · simp only [go_sem]; with_reducible rfl
       · simp only [go_sem]; with_reducible rfl
       · simp only [go_sem]; with_reducible rfl
       · simp only [go_sem, *]
       · simp only [go_sem, encRing, *]; with_reducible rfl
       · simp only [go_sem, encRing, *]
       · simp only [go_sem, *]
       · simp only [go_sem, *]
       · simp only [go_sem]
         (with_reducible apply m_laws_markRing) <;> first | assumption | rfl
       · simp only [go_sem, encRing, *]
       · simp only [go_sem, encRing]; with_reducible rfl)
    | (with_reducible apply al_lendV (f := 28) 0
       · exact gchk_none rfl
       · rfl
       · exact Go.Proofs.Try.call28
       · simp only [go_sem, encRing, *]; with_reducible rfl
       · simp only [go_sem]; with_reducible rfl
       · simp only [go_sem]; with_reducible rfl
       · simp only [go_sem]; with_reducible rfl
       · simp only [go_sem, *]
       · simp only [go_sem, encRing, *]; with_reducible rfl
       · simp only [go_sem, encRing, *]
       · simp only [go_sem, *]
       · simp only [go_sem, *]
       · simp only [go_sem]
         (with_reducible apply m_laws_markIntS) <;> first | assumption | rfl
       · simp only [go_sem, encRing, *]
       · simp only [go_sem, encRing]; with_reducible rfl)
    | (with_reducible apply al_movetup
       · exact gchk_none rfl
       · rfl
       · simp only [go_sem, *]; with_reducible rfl
       · simp only [go_sem]; with_reducible rfl)
    | with_reducible refine ad_nil ?_
    | (with_reducible apply ad_q hT
       · first | exact gchk_none rfl | simp only [go_sem, *]
       · simp only [go_sem, encRing, *]; first | done | with_reducible rfl
       · simp only [go_sem, *]
       · simp only [go_sem]; with_reducible rfl)
    | (with_reducible apply ad_call (f := 17)
       · first | exact gchk_none rfl | simp only [go_sem, *]
       · rfl
       · exact Go.Proofs.Try.call17
       · simp only [go_sem, encRing, *]; with_reducible rfl
       · simp only [go_sem, *]
       · first | assumption | ((with_reducible apply c_laws_toRing) <;> first | assumption | rfl)
       · simp only [go_sem, *]
       · simp only [go_sem]; with_reducible rfl)
    | (with_reducible apply ad_snap (f := 19)
       · first | exact gchk_none rfl | simp only [go_sem, *]
       · rfl
       · exact Go.Proofs.Try.call19
       · simp only [go_sem, encRing, *]; with_reducible rfl
       · simp only [go_sem, encRing, *]; with_reducible rfl
       · first | assumption | ((with_reducible apply c_laws_eqRing) <;> first | assumption | rfl)
       · simp only [go_sem, *]
       · simp only [go_sem, *]
       · simp only [go_sem]; with_reducible rfl)
    | (with_reducible apply al_s hT true
       · first | exact gchk_none rfl | simp only [go_sem, *]
       · simp only [go_sem, encRing, *]; first | done | with_reducible rfl)
    )
    all_goals ((simp only [go_sem, *]); first | done | rfl)
  · have hg : decide ((-1 : Int) < 0) = true := by decide
    refine sound_body hT Go.Proofs.Try.func6 rfl ?_
    rw [Go.Proofs.Try.results6, Go.Proofs.Try.ntmps6]
    simp only [frame, List.length_cons, List.length_nil, List.replicate, List.cons_append, List.nil_append, Nat.reduceAdd, Nat.reduceSub]
    repeat' (first
    | with_reducible first | refine aw_seq ?_ | refine aw_block ?_ | refine aw_skip ?_ | refine aw_exit ?_
    | with_reducible first | refine aw_ret ?_ | refine thenA_n ?_ | refine thenA_r ?_ | refine thenA_x ?_ | refine blockA_n ?_ | refine blockA_r ?_ | refine blockA_e ?_ | refine blockA_x (by decide) ?_ | refine ends_r ?_ | refine ends_n ?_ | refine ends_rM ?_ | refine ends_nM ?_ | refine aw_reg ?_
    | with_reducible refine al_nil ?_
    | (with_reducible apply aw_cond
       · simp only [go_sem, *]; with_reducible rfl
       all_goals (intro h; try simp only [Bool.not_eq_true', Bool.not_eq_false', reduceCtorEq] at h))
    | (with_reducible apply al_call (f := 15)
       · first | exact gchk_none rfl | simp only [go_sem, *]
       · rfl
       · exact Go.Proofs.Try.call15
       · simp only [go_sem, encRing, *]; with_reducible rfl
       · simp only [go_sem, *]
       · first | assumption | ((with_reducible apply c_laws_szRing) <;> first | assumption | rfl)
       · simp only [go_sem]; with_reducible rfl)
    | (with_reducible apply al_s hT true
       · first | exact gchk_none rfl | simp only [go_sem, *]
       · simp only [go_sem, encRing, *]; first | done | with_reducible rfl)
    )
    all_goals ((simp only [go_sem, *]); first | done | rfl)
end Go.Proofs.Ytcgkejggkenecaa
