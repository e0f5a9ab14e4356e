/- Contracts: Passes, of the program and of the specification; the law. -/
import Derived.Test.YtedjmclcjkcooaaFnPe
import Derived.Test.YtedjmclcjkcooaaBvAt
namespace Go.Proofs.Ytedjmclcjkcooaa
open Go Go.RowKit Go.Bv
set_option linter.unusedSimpArgs false
set_option linter.unusedVariables false
set_option maxRecDepth 4000
set_option maxHeartbeats 4000000

def passV (f : List TermV) (m : MsgV) : Bool := filterB f && msgB m && leftB f m
theorem c_impl_Passes (f : List TermV) (m : MsgV) {u v : AV} (hu : u = .lst false 3 (f.map encT)) (hv : v = encMsg false m) (hf : okTermS f) (hm : okMsg m) : Sound P 12 [u, v] (.bool (passV f m)) := by
  subst hu hv
  have hfl : f.length < 4611686018427387904 := hf.1
  have hft : ∀ t ∈ f, t.fits := hf.2
  cases hF : filterB f
  · rw [show passV f m = false by simp only [passV, hF, Bool.false_and]]
    refine sound_body hT Try.func12 rfl ?_
    rw [Try.results12, Try.ntmps12]
    simp only [frame, List.length_cons, List.length_nil, List.replicate, List.cons_append, List.nil_append, Nat.reduceAdd, Nat.reduceSub]
    repeat' (first
    | with_reducible first | refine aw_seq ?_ | refine aw_block ?_ | refine aw_skip ?_ | refine aw_exit ?_
    | with_reducible first | refine aw_ret ?_ | refine thenA_n ?_ | refine thenA_r ?_ | refine thenA_x ?_ | refine blockA_n ?_ | refine blockA_r ?_ | refine blockA_e ?_ | refine blockA_x (by decide) ?_ | refine ends_r ?_ | refine ends_n ?_ | refine ends_rM ?_ | refine ends_nM ?_ | refine aw_reg ?_
    | with_reducible refine al_nil ?_
    | (with_reducible apply al_call (f := 36)
       · first | exact gchk_none rfl | simp only [go_sem, *]
       · rfl
       · exact Try.call36
       · simp only [go_sem, encMsg, *]; with_reducible rfl
       · simp only [go_sem, *]
       · first | assumption | ((with_reducible apply c_impl_FilterOk) <;> first | assumption | rfl)
       · simp only [go_sem]; with_reducible rfl)
    | (with_reducible apply al_s hT true
       · first | exact gchk_none rfl | simp only [go_sem, *]
       · simp only [go_sem, encMsg, *]; first | done | with_reducible rfl)
    | (with_reducible apply al_skip
       · simp only [go_sem, *]
       · simp only [go_sem]; with_reducible rfl)
    )
    all_goals ((simp only [go_sem, *]); first | done | rfl)
  cases hM : msgB m
  · rw [show passV f m = false by simp only [passV, hM, Bool.and_false, Bool.false_and]]
    refine sound_body hT Try.func12 rfl ?_
    rw [Try.results12, Try.ntmps12]
    simp only [frame, List.length_cons, List.length_nil, List.replicate, List.cons_append, List.nil_append, Nat.reduceAdd, Nat.reduceSub]
    repeat' (first
    | with_reducible first | refine aw_seq ?_ | refine aw_block ?_ | refine aw_skip ?_ | refine aw_exit ?_
    | with_reducible first | refine aw_ret ?_ | refine thenA_n ?_ | refine thenA_r ?_ | refine thenA_x ?_ | refine blockA_n ?_ | refine blockA_r ?_ | refine blockA_e ?_ | refine blockA_x (by decide) ?_ | refine ends_r ?_ | refine ends_n ?_ | refine ends_rM ?_ | refine ends_nM ?_ | refine aw_reg ?_
    | with_reducible refine al_nil ?_
    | (with_reducible apply al_call (f := 36)
       · first | exact gchk_none rfl | simp only [go_sem, *]
       · rfl
       · exact Try.call36
       · simp only [go_sem, encMsg, *]; with_reducible rfl
       · simp only [go_sem, *]
       · first | assumption | ((with_reducible apply c_impl_FilterOk) <;> first | assumption | rfl)
       · simp only [go_sem]; with_reducible rfl)
    | (with_reducible apply al_call (f := 37)
       · first | exact gchk_none rfl | simp only [go_sem, *]
       · rfl
       · exact Try.call37
       · simp only [go_sem, encMsg, *]; with_reducible rfl
       · simp only [go_sem, *]
       · first | assumption | ((with_reducible apply c_impl_MsgOk) <;> first | assumption | rfl)
       · simp only [go_sem]; with_reducible rfl)
    | (with_reducible apply al_s hT true
       · first | exact gchk_none rfl | simp only [go_sem, *]
       · simp only [go_sem, encMsg, *]; first | done | with_reducible rfl)
    | (with_reducible apply al_skip
       · simp only [go_sem, *]
       · simp only [go_sem]; with_reducible rfl)
    )
    all_goals ((simp only [go_sem, *]); first | done | rfl)
  rw [show passV f m = leftB f m by simp only [passV, hF, hM, Bool.and_self, Bool.true_and]]
  refine sound_body hT Try.func12 rfl ?_
  rw [Try.results12, Try.ntmps12]
  simp only [frame, List.length_cons, List.length_nil, List.replicate, List.cons_append, List.nil_append, Nat.reduceAdd, Nat.reduceSub]
  repeat' (first
  | with_reducible first | refine aw_seq ?_ | refine aw_block ?_ | refine aw_skip ?_ | refine aw_exit ?_
  | with_reducible first | refine aw_ret ?_ | refine thenA_n ?_ | refine thenA_r ?_ | refine thenA_x ?_ | refine blockA_n ?_ | refine blockA_r ?_ | refine blockA_e ?_ | refine blockA_x (by decide) ?_ | refine ends_r ?_ | refine ends_n ?_ | refine ends_rM ?_ | refine ends_nM ?_ | refine aw_reg ?_
  | with_reducible refine al_nil ?_
  | (with_reducible apply al_call (f := 36)
     · first | exact gchk_none rfl | simp only [go_sem, *]
     · rfl
     · exact Try.call36
     · simp only [go_sem, encMsg, *]; with_reducible rfl
     · simp only [go_sem, *]
     · first | assumption | ((with_reducible apply c_impl_FilterOk) <;> first | assumption | rfl)
     · simp only [go_sem]; with_reducible rfl)
  | (with_reducible apply al_call (f := 37)
     · first | exact gchk_none rfl | simp only [go_sem, *]
     · rfl
     · exact Try.call37
     · simp only [go_sem, encMsg, *]; with_reducible rfl
     · simp only [go_sem, *]
     · first | assumption | ((with_reducible apply c_impl_MsgOk) <;> first | assumption | rfl)
     · simp only [go_sem]; with_reducible rfl)
  | (with_reducible apply al_call (f := 38)
     · first | exact gchk_none rfl | simp only [go_sem, *]
     · rfl
     · exact Try.call38
     · simp only [go_sem, encMsg, *]; with_reducible rfl
     · simp only [go_sem, *]
     · first | assumption | ((with_reducible apply c_impl_passes) <;> first | assumption | rfl)
     · simp only [go_sem]; with_reducible rfl)
  | (with_reducible apply al_s hT true
     · first | exact gchk_none rfl | simp only [go_sem, *]
     · simp only [go_sem, encMsg, *]; first | done | with_reducible rfl)
  )
  all_goals ((simp only [go_sem, *]); first | done | rfl)
theorem c_spec_Passes (f : List TermV) (m : MsgV) {u v : AV} (hu : u = .lst false 3 (f.map encT)) (hv : v = encMsg false m) (hf : okTermS f) (hm : okMsg m) : Sound P 9 [u, v] (.bool (passV f m)) := by
  subst hu hv
  have hfl : f.length < 4611686018427387904 := hf.1
  have hft : ∀ t ∈ f, t.fits := hf.2
  cases hF : filterB f
  · rw [show passV f m = false by simp only [passV, hF, Bool.false_and]]
    refine sound_body hT Try.func9 rfl ?_
    rw [Try.results9, Try.ntmps9]
    simp only [frame, List.length_cons, List.length_nil, List.replicate, List.cons_append, List.nil_append, Nat.reduceAdd, Nat.reduceSub]
    repeat' (first
    | with_reducible first | refine aw_seq ?_ | refine aw_block ?_ | refine aw_skip ?_ | refine aw_exit ?_
    | with_reducible first | refine aw_ret ?_ | refine thenA_n ?_ | refine thenA_r ?_ | refine thenA_x ?_ | refine blockA_n ?_ | refine blockA_r ?_ | refine blockA_e ?_ | refine blockA_x (by decide) ?_ | refine ends_r ?_ | refine ends_n ?_ | refine ends_rM ?_ | refine ends_nM ?_ | refine aw_reg ?_
    | with_reducible refine al_nil ?_
    | (with_reducible apply al_call (f := 32)
       · first | exact gchk_none rfl | simp only [go_sem, *]
       · rfl
       · exact Try.call32
       · simp only [go_sem, encMsg, *]; with_reducible rfl
       · simp only [go_sem, *]
       · first | assumption | ((with_reducible apply c_spec_FilterOk) <;> first | assumption | rfl)
       · simp only [go_sem]; with_reducible rfl)
    | (with_reducible apply al_s hT true
       · first | exact gchk_none rfl | simp only [go_sem, *]
       · simp only [go_sem, encMsg, *]; first | done | with_reducible rfl)
    | (with_reducible apply al_skip
       · simp only [go_sem, *]
       · simp only [go_sem]; with_reducible rfl)
    )
    all_goals ((simp only [go_sem, *]); first | done | rfl)
  cases hM : msgB m
  · rw [show passV f m = false by simp only [passV, hM, Bool.and_false, Bool.false_and]]
    refine sound_body hT Try.func9 rfl ?_
    rw [Try.results9, Try.ntmps9]
    simp only [frame, List.length_cons, List.length_nil, List.replicate, List.cons_append, List.nil_append, Nat.reduceAdd, Nat.reduceSub]
    repeat' (first
    | with_reducible first | refine aw_seq ?_ | refine aw_block ?_ | refine aw_skip ?_ | refine aw_exit ?_
    | with_reducible first | refine aw_ret ?_ | refine thenA_n ?_ | refine thenA_r ?_ | refine thenA_x ?_ | refine blockA_n ?_ | refine blockA_r ?_ | refine blockA_e ?_ | refine blockA_x (by decide) ?_ | refine ends_r ?_ | refine ends_n ?_ | refine ends_rM ?_ | refine ends_nM ?_ | refine aw_reg ?_
    | with_reducible refine al_nil ?_
    | (with_reducible apply al_call (f := 32)
       · first | exact gchk_none rfl | simp only [go_sem, *]
       · rfl
       · exact Try.call32
       · simp only [go_sem, encMsg, *]; with_reducible rfl
       · simp only [go_sem, *]
       · first | assumption | ((with_reducible apply c_spec_FilterOk) <;> first | assumption | rfl)
       · simp only [go_sem]; with_reducible rfl)
    | (with_reducible apply al_call (f := 33)
       · first | exact gchk_none rfl | simp only [go_sem, *]
       · rfl
       · exact Try.call33
       · simp only [go_sem, encMsg, *]; with_reducible rfl
       · simp only [go_sem, *]
       · first | assumption | ((with_reducible apply c_spec_MsgOk) <;> first | assumption | rfl)
       · simp only [go_sem]; with_reducible rfl)
    | (with_reducible apply al_s hT true
       · first | exact gchk_none rfl | simp only [go_sem, *]
       · simp only [go_sem, encMsg, *]; first | done | with_reducible rfl)
    | (with_reducible apply al_skip
       · simp only [go_sem, *]
       · simp only [go_sem]; with_reducible rfl)
    )
    all_goals ((simp only [go_sem, *]); first | done | rfl)
  rw [show passV f m = leftB f m by simp only [passV, hF, hM, Bool.and_self, Bool.true_and]]
  refine sound_body hT Try.func9 rfl ?_
  rw [Try.results9, Try.ntmps9]
  simp only [frame, List.length_cons, List.length_nil, List.replicate, List.cons_append, List.nil_append, Nat.reduceAdd, Nat.reduceSub]
  repeat' (first
  | with_reducible first | refine aw_seq ?_ | refine aw_block ?_ | refine aw_skip ?_ | refine aw_exit ?_
  | with_reducible first | refine aw_ret ?_ | refine thenA_n ?_ | refine thenA_r ?_ | refine thenA_x ?_ | refine blockA_n ?_ | refine blockA_r ?_ | refine blockA_e ?_ | refine blockA_x (by decide) ?_ | refine ends_r ?_ | refine ends_n ?_ | refine ends_rM ?_ | refine ends_nM ?_ | refine aw_reg ?_
  | with_reducible refine al_nil ?_
  | (with_reducible apply al_call (f := 32)
     · first | exact gchk_none rfl | simp only [go_sem, *]
     · rfl
     · exact Try.call32
     · simp only [go_sem, encMsg, *]; with_reducible rfl
     · simp only [go_sem, *]
     · first | assumption | ((with_reducible apply c_spec_FilterOk) <;> first | assumption | rfl)
     · simp only [go_sem]; with_reducible rfl)
  | (with_reducible apply al_call (f := 33)
     · first | exact gchk_none rfl | simp only [go_sem, *]
     · rfl
     · exact Try.call33
     · simp only [go_sem, encMsg, *]; with_reducible rfl
     · simp only [go_sem, *]
     · first | assumption | ((with_reducible apply c_spec_MsgOk) <;> first | assumption | rfl)
     · simp only [go_sem]; with_reducible rfl)
  | (with_reducible apply al_call (f := 34)
     · first | exact gchk_none rfl | simp only [go_sem, *]
     · rfl
     · exact Try.call34
     · simp only [go_sem, encMsg, *]; with_reducible rfl
     · simp only [go_sem, *]
     · first | assumption | ((with_reducible apply c_spec_l8Left) <;> first | assumption | rfl)
     · simp only [go_sem]; with_reducible rfl)
  | (with_reducible apply al_s hT true
     · first | exact gchk_none rfl | simp only [go_sem, *]
     · simp only [go_sem, encMsg, *]; first | done | with_reducible rfl)
  )
  all_goals ((simp only [go_sem, *]); first | done | rfl)
theorem c_laws_FnExactPasses (f : List TermV) (m : MsgV) {u : AV} (hu : u = encMsg false m) (hf : okTermS f) (hm : okMsg m) : Sound P 3 [.lst false 3 (f.map encT), u] (.bool true) := by
  subst hu
  have h0 : decide ((1048576 : Int) < 0) = false := by decide
  have h1 : (1048576 : Int) ≤ 1048576 := by omega
  rcases szW_cases (wTermS f) 1048576 with ⟨hw, hz⟩ | ⟨hw, hz⟩
  rotate_left
  · have hg : decide ((-1 : Int) < 0) = true := by decide
    refine sound_body hT Try.func3 rfl ?_
    rw [Try.results3, Try.ntmps3]
    simp only [frame, List.length_cons, List.length_nil, List.replicate, List.cons_append, List.nil_append, Nat.reduceAdd, Nat.reduceSub]
    repeat' (first
    | with_reducible first | refine aw_seq ?_ | refine aw_block ?_ | refine aw_skip ?_ | refine aw_exit ?_
    | with_reducible first | refine aw_ret ?_ | refine thenA_n ?_ | refine thenA_r ?_ | refine thenA_x ?_ | refine blockA_n ?_ | refine blockA_r ?_ | refine blockA_e ?_ | refine blockA_x (by decide) ?_ | refine ends_r ?_ | refine ends_n ?_ | refine ends_rM ?_ | refine ends_nM ?_ | refine aw_reg ?_
    | with_reducible refine al_nil ?_
    | (with_reducible apply aw_cond
       · simp only [go_sem, *]; with_reducible rfl
       all_goals (intro h; try simp only [Bool.not_eq_true', Bool.not_eq_false', reduceCtorEq] at h))
    | (with_reducible apply al_call (f := 7)
       · first | exact gchk_none rfl | simp only [go_sem, *]
       · rfl
       · exact Try.call7
       · simp only [go_sem, encMsg, *]; with_reducible rfl
       · simp only [go_sem, *]
       · first | assumption | ((with_reducible apply c_laws_szTermS) <;> first | assumption | rfl)
       · simp only [go_sem]; with_reducible rfl)
    | (with_reducible apply al_s hT true
       · first | exact gchk_none rfl | simp only [go_sem, *]
       · simp only [go_sem, encMsg, *]; first | done | with_reducible rfl)
    )
    all_goals ((simp only [go_sem, *]); first | done | rfl)
  have hg : decide ((1048576 : Int) - (wTermS f : Int) < 0) = false := decide_eq_false (by omega)
  have h2 : (1048576 : Int) - (wTermS f : Int) ≤ 1048576 := by omega
  rcases szW_cases (wMsg m) (1048576 - (wTermS f : Int)) with ⟨hv, hy⟩ | ⟨hv, hy⟩
  rotate_left
  · have hg2 : decide ((-1 : Int) < 0) = true := by decide
    refine sound_body hT Try.func3 rfl ?_
    rw [Try.results3, Try.ntmps3]
    simp only [frame, List.length_cons, List.length_nil, List.replicate, List.cons_append, List.nil_append, Nat.reduceAdd, Nat.reduceSub]
    repeat' (first
    | with_reducible first | refine aw_seq ?_ | refine aw_block ?_ | refine aw_skip ?_ | refine aw_exit ?_
    | with_reducible first | refine aw_ret ?_ | refine thenA_n ?_ | refine thenA_r ?_ | refine thenA_x ?_ | refine blockA_n ?_ | refine blockA_r ?_ | refine blockA_e ?_ | refine blockA_x (by decide) ?_ | refine ends_r ?_ | refine ends_n ?_ | refine ends_rM ?_ | refine ends_nM ?_ | refine aw_reg ?_
    | with_reducible refine al_nil ?_
    | (with_reducible apply aw_cond
       · simp only [go_sem, *]; with_reducible rfl
       all_goals (intro h; try simp only [Bool.not_eq_true', Bool.not_eq_false', reduceCtorEq] at h))
    | (with_reducible apply al_call (f := 7)
       · first | exact gchk_none rfl | simp only [go_sem, *]
       · rfl
       · exact Try.call7
       · simp only [go_sem, encMsg, *]; with_reducible rfl
       · simp only [go_sem, *]
       · first | assumption | ((with_reducible apply c_laws_szTermS) <;> first | assumption | rfl)
       · simp only [go_sem]; with_reducible rfl)
    | (with_reducible apply al_call (f := 8)
       · first | exact gchk_none rfl | simp only [go_sem, *]
       · rfl
       · exact Try.call8
       · simp only [go_sem, encMsg, *]; with_reducible rfl
       · simp only [go_sem, *]
       · first | assumption | ((with_reducible apply c_laws_szMsg) <;> first | assumption | rfl)
       · simp only [go_sem]; with_reducible rfl)
    | (with_reducible apply al_s hT true
       · first | exact gchk_none rfl | simp only [go_sem, *]
       · simp only [go_sem, encMsg, *]; first | done | with_reducible rfl)
    )
    all_goals ((simp only [go_sem, *]); first | done | rfl)
  have hg2 : decide ((1048576 : Int) - (wTermS f : Int) - (wMsg m : Int) < 0) = false := decide_eq_false (by omega)
  have hf4 : wTermS f ≤ 4194304 := by omega
  have hm4 : wMsg m ≤ 4194304 := by omega
  obtain ⟨b, hb⟩ : ∃ b, passV f m = b := ⟨_, rfl⟩
  clear hw hv
  refine sound_body hT Try.func3 rfl ?_
  rw [Try.results3, Try.ntmps3]
  simp only [frame, List.length_cons, List.length_nil, List.replicate, List.cons_append, List.nil_append, Nat.reduceAdd, Nat.reduceSub]
  repeat' (first
  | with_reducible first | refine aw_seq ?_ | refine aw_block ?_ | refine aw_skip ?_ | refine aw_exit ?_
  | with_reducible first | refine aw_ret ?_ | refine thenA_n ?_ | refine thenA_r ?_ | refine thenA_x ?_ | refine blockA_n ?_ | refine blockA_r ?_ | refine blockA_e ?_ | refine blockA_x (by decide) ?_ | refine ends_r ?_ | refine ends_n ?_ | refine ends_rM ?_ | refine ends_nM ?_ | refine aw_reg ?_
  | (with_reducible apply aw_anyS hT (id := 8) [[], [0], [], [0, 1, 2], [0, 1, 2, 3], [0, 1, 2, 3, 4]] [19, 20, 21, 22, 23, 6]
     · rfl
     · decide +kernel
     · decide +kernel
     · simp only [go_sem, *])
  | with_reducible refine al_nil ?_
  | (with_reducible apply aw_cond
     · simp only [go_sem, *]; with_reducible rfl
     all_goals (intro h; try simp only [Bool.not_eq_true', Bool.not_eq_false', reduceCtorEq] at h))
  | (with_reducible apply al_call (f := 7)
     · first | exact gchk_none rfl | simp only [go_sem, *]
     · rfl
     · exact Try.call7
     · simp only [go_sem, encMsg, *]; with_reducible rfl
     · simp only [go_sem, *]
     · first | assumption | ((with_reducible apply c_laws_szTermS) <;> first | assumption | rfl)
     · simp only [go_sem]; with_reducible rfl)
  | (with_reducible apply al_call (f := 8)
     · first | exact gchk_none rfl | simp only [go_sem, *]
     · rfl
     · exact Try.call8
     · simp only [go_sem, encMsg, *]; with_reducible rfl
     · simp only [go_sem, *]
     · first | assumption | ((with_reducible apply c_laws_szMsg) <;> first | assumption | rfl)
     · simp only [go_sem]; with_reducible rfl)
  | (with_reducible apply al_call (f := 10)
     · first | exact gchk_none rfl | simp only [go_sem, *]
     · rfl
     · exact Try.call10
     · simp only [go_sem, encMsg, *]; with_reducible rfl
     · simp only [go_sem, *]
     · first | assumption | ((with_reducible apply c_laws_toTermS) <;> first | assumption | rfl)
     · simp only [go_sem]; with_reducible rfl)
  | (with_reducible apply al_call (f := 11)
     · first | exact gchk_none rfl | simp only [go_sem, *]
     · rfl
     · exact Try.call11
     · simp only [go_sem, encMsg, *]; with_reducible rfl
     · simp only [go_sem, *]
     · first | assumption | ((with_reducible apply c_laws_toMsg) <;> first | assumption | rfl)
     · simp only [go_sem]; with_reducible rfl)
  | (with_reducible apply al_snap (f := 12)
     · first | exact gchk_none rfl | simp only [go_sem, *]
     · rfl
     · exact Try.call12
     · simp only [go_sem, encMsg, *]; with_reducible rfl
     · simp only [go_sem, encMsg, *]; with_reducible rfl
     · first | assumption | ((with_reducible apply c_impl_Passes) <;> first | assumption | rfl)
     · simp only [go_sem, *]
     · simp only [go_sem]; with_reducible rfl)
  | (with_reducible apply al_snap (f := 13)
     · first | exact gchk_none rfl | simp only [go_sem, *]
     · rfl
     · exact Try.call13
     · simp only [go_sem, encMsg, *]; with_reducible rfl
     · simp only [go_sem, encMsg, *]; with_reducible rfl
     · first | assumption | ((with_reducible apply c_laws_eqTermS) <;> first | assumption | rfl)
     · simp only [go_sem, *]
     · simp only [go_sem]; with_reducible rfl)
  | with_reducible refine ad_nil ?_
  | (with_reducible apply ad_q hT
     · first | exact gchk_none rfl | simp only [go_sem, *]
     · simp only [go_sem, encMsg, *]; first | done | with_reducible rfl
     · simp only [go_sem, *]
     · simp only [go_sem]; with_reducible rfl)
  | (with_reducible apply ad_assign
     · first | exact gchk_none rfl | simp only [go_sem, *]
     · rfl
     · simp only [go_sem, encMsg, *]; with_reducible rfl
     · simp only [go_sem, *]
     · simp only [go_sem]; with_reducible rfl)
  | (with_reducible apply ad_call (f := 10)
     · first | exact gchk_none rfl | simp only [go_sem, *]
     · rfl
     · exact Try.call10
     · simp only [go_sem, encMsg, *]; with_reducible rfl
     · simp only [go_sem, *]
     · first | assumption | ((with_reducible apply c_laws_toTermS) <;> first | assumption | rfl)
     · simp only [go_sem, *]
     · simp only [go_sem]; with_reducible rfl)
  | (with_reducible apply ad_call (f := 11)
     · first | exact gchk_none rfl | simp only [go_sem, *]
     · rfl
     · exact Try.call11
     · simp only [go_sem, encMsg, *]; with_reducible rfl
     · simp only [go_sem, *]
     · first | assumption | ((with_reducible apply c_laws_toMsg) <;> first | assumption | rfl)
     · simp only [go_sem, *]
     · simp only [go_sem]; with_reducible rfl)
  | (with_reducible apply ad_snap (f := 9)
     · first | exact gchk_none rfl | simp only [go_sem, *]
     · rfl
     · exact Try.call9
     · simp only [go_sem, encMsg, *]; with_reducible rfl
     · simp only [go_sem, encMsg, *]; with_reducible rfl
     · first | assumption | ((with_reducible apply c_spec_Passes) <;> first | assumption | rfl)
     · simp only [go_sem, *]
     · simp only [go_sem, *]
     · simp only [go_sem]; with_reducible rfl)
  | (with_reducible apply al_s hT true
     · first | exact gchk_none rfl | simp only [go_sem, *]
     · simp only [go_sem, encMsg, *]; first | done | with_reducible rfl)
  )
  all_goals ((simp only [go_sem, *]); first | done | rfl)
end Go.Proofs.Ytedjmclcjkcooaa
