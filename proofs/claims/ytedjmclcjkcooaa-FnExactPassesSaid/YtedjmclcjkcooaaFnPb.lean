/- Contracts: what one term says of a message, both functions. -/
import Derived.Test.YtedjmclcjkcooaaFnPa
import Derived.Test.YtedjmclcjkcooaaBvAt
namespace Go.Proofs.Ytedjmclcjkcooaa
open Go Go.RowKit Go.Bv
set_option linter.unusedSimpArgs false
set_option linter.unusedVariables false
set_option maxRecDepth 4000
set_option maxHeartbeats 4000000

theorem c_impl_lays (t : TermV) (m : MsgV) {u v : AV} (hu : u = encT t) (hv : v = encMsg false m) (ht : termB t.op t.num t.text = true) (hk : takesI t.op = 0) (hm : msgB m = true) : Sound P 69 [u, v] (.bool (saysB t m)) := by
  subst hu hv
  obtain ⟨o, n, s⟩ := t
  have hkd := msg_kind hm
  obtain ⟨kd, mn, mt⟩ := m
  simp only at ht hk hkd
  clear hm
  rcases opCases o with rfl | rfl | rfl | rfl | rfl | rfl | rfl | rfl | rfl | rfl | ⟨h1, h2, h3, h4, h5, h6, h7, h8, h9, h10⟩
  case inr.inr.inr.inr.inl =>
    have hn0 : (n = 0) = False := by
      rw [eq_iff_iff, iff_false]
      intro e
      subst e
      simp [termB] at ht
    rcases hkd with rfl | ⟨rfl, _⟩
    · have e1 : ((1 : Int) == 1) = true := rfl
      clear ht hk
      refine sound_body hT Try.func69 rfl ?_
      rw [Try.results69, Try.ntmps69]
      simp only [frame, List.length_cons, List.length_nil, List.replicate, List.cons_append, List.nil_append, Nat.reduceAdd, Nat.reduceSub]
      repeat' (first
      | with_reducible first | refine aw_seq ?_ | refine aw_block ?_ | refine aw_skip ?_
      | with_reducible first | refine aw_ret ?_ | refine thenA_n ?_ | refine thenA_r ?_ | refine blockA_n ?_ | refine blockA_r ?_ | refine ends_r ?_ | refine aw_reg ?_
      | with_reducible refine al_nil ?_
      | (with_reducible apply aw_cond
         · simp only [go_sem, *]; with_reducible rfl
         all_goals (intro h; try simp only [Bool.not_eq_true', Bool.not_eq_false', reduceCtorEq] at h))
      | (with_reducible apply al_s hT true
         · first | exact gchk_none rfl | simp only [go_sem, *]
         · simp only [go_sem, encT, encMsg, *]; first | done | with_reducible rfl)
      )
      all_goals ((simp only [go_sem, *]); first | done | rfl)
    · have e1 : ((2 : Int) == 1) = false := rfl
      clear ht hk
      refine sound_body hT Try.func69 rfl ?_
      rw [Try.results69, Try.ntmps69]
      simp only [frame, List.length_cons, List.length_nil, List.replicate, List.cons_append, List.nil_append, Nat.reduceAdd, Nat.reduceSub]
      repeat' (first
      | with_reducible first | refine aw_seq ?_ | refine aw_block ?_ | refine aw_skip ?_
      | with_reducible first | refine aw_ret ?_ | refine thenA_n ?_ | refine thenA_r ?_ | refine blockA_n ?_ | refine blockA_r ?_ | refine ends_r ?_ | refine aw_reg ?_
      | with_reducible refine al_nil ?_
      | (with_reducible apply aw_cond
         · simp only [go_sem, *]; with_reducible rfl
         all_goals (intro h; try simp only [Bool.not_eq_true', Bool.not_eq_false', reduceCtorEq] at h))
      | (with_reducible apply al_s hT true
         · first | exact gchk_none rfl | simp only [go_sem, *]
         · simp only [go_sem, encT, encMsg, *]; first | done | with_reducible rfl)
      | (with_reducible apply al_skip
         · simp only [go_sem, *]
         · simp only [go_sem]; with_reducible rfl)
      )
      all_goals ((simp only [go_sem, *]); first | done | rfl)
  all_goals first
    | (exfalso; revert hk; simp [takesI]; done)
    | (exfalso; revert ht; simp_all [termB]; done)
    | (rcases hkd with rfl | ⟨rfl, hsz⟩
       · have hz : mt.size < 4294967281 ∨ True := .inr trivial
         have e1 : ((1 : Int) == 1) = true := rfl
         have e2 : ((1 : Int) == 2) = false := rfl
         clear ht hk
         refine sound_body hT Try.func69 rfl ?_
         rw [Try.results69, Try.ntmps69]
         simp only [frame, List.length_cons, List.length_nil, List.replicate, List.cons_append, List.nil_append, Nat.reduceAdd, Nat.reduceSub]
         repeat' (first
         | with_reducible first | refine aw_seq ?_ | refine aw_block ?_ | refine aw_skip ?_
         | with_reducible first | refine aw_ret ?_ | refine thenA_n ?_ | refine thenA_r ?_ | refine blockA_n ?_ | refine blockA_r ?_ | refine ends_r ?_ | refine aw_reg ?_
         | with_reducible refine al_nil ?_
         | (with_reducible apply aw_cond
            · simp only [go_sem, *]; with_reducible rfl
            all_goals (intro h; try simp only [Bool.not_eq_true', Bool.not_eq_false', reduceCtorEq] at h))
         | (with_reducible apply al_s hT true
            · first | exact gchk_none rfl | simp only [go_sem, *]
            · simp only [go_sem, encT, encMsg, *]; first | done | with_reducible rfl)
         | (with_reducible apply al_skip
            · simp only [go_sem, *]
            · simp only [go_sem]; with_reducible rfl)
         )
         all_goals ((simp only [go_sem, *]); first | done | rfl)
       · have hz : mt.size < 4294967281 := by omega
         have e1 : ((2 : Int) == 1) = false := rfl
         have e2 : ((2 : Int) == 2) = true := rfl
         clear ht hk
         refine sound_body hT Try.func69 rfl ?_
         rw [Try.results69, Try.ntmps69]
         simp only [frame, List.length_cons, List.length_nil, List.replicate, List.cons_append, List.nil_append, Nat.reduceAdd, Nat.reduceSub]
         repeat' (first
         | with_reducible first | refine aw_seq ?_ | refine aw_block ?_ | refine aw_skip ?_
         | with_reducible first | refine aw_ret ?_ | refine thenA_n ?_ | refine thenA_r ?_ | refine blockA_n ?_ | refine blockA_r ?_ | refine ends_r ?_ | refine aw_reg ?_
         | with_reducible refine al_nil ?_
         | (with_reducible apply aw_cond
            · simp only [go_sem, *]; with_reducible rfl
            all_goals (intro h; try simp only [Bool.not_eq_true', Bool.not_eq_false', reduceCtorEq] at h))
         | (with_reducible apply al_call (f := 87)
            · first | exact gchk_none rfl | simp only [go_sem, *]
            · rfl
            · exact Try.call87
            · simp only [go_sem, encT, encMsg, *]; with_reducible rfl
            · simp only [go_sem, *]
            · first | assumption | ((with_reducible apply c_strings_HasPrefix) <;> first | assumption | rfl)
            · simp only [go_sem]; with_reducible rfl)
         | (with_reducible apply al_call (f := 88)
            · first | exact gchk_none rfl | simp only [go_sem, *]
            · rfl
            · exact Try.call88
            · simp only [go_sem, encT, encMsg, *]; with_reducible rfl
            · simp only [go_sem, *]
            · first | assumption | ((with_reducible apply c_strings_Contains) <;> first | assumption | rfl)
            · simp only [go_sem]; with_reducible rfl)
         | (with_reducible apply al_s hT true
            · first | exact gchk_none rfl | simp only [go_sem, *]
            · simp only [go_sem, encT, encMsg, *]; first | done | with_reducible rfl)
         | (with_reducible apply al_skip
            · simp only [go_sem, *]
            · simp only [go_sem]; with_reducible rfl)
         )
         all_goals ((simp only [go_sem, *]); first | done | rfl))
theorem c_spec_l8Says (t : TermV) (m : MsgV) {u v : AV} (hu : u = encT t) (hv : v = encMsg false m) (ht : termB t.op t.num t.text = true) (hk : takesI t.op = 0) (hm : msgB m = true) : Sound P 65 [u, v] (.bool (saysB t m)) := by
  subst hu hv
  obtain ⟨o, n, s⟩ := t
  have hkd := msg_kind hm
  obtain ⟨kd, mn, mt⟩ := m
  simp only at ht hk hkd
  clear hm
  rcases opCases o with rfl | rfl | rfl | rfl | rfl | rfl | rfl | rfl | rfl | rfl | ⟨h1, h2, h3, h4, h5, h6, h7, h8, h9, h10⟩
  case inr.inr.inr.inr.inl =>
    have hn0 : (n = 0) = False := by
      rw [eq_iff_iff, iff_false]
      intro e
      subst e
      simp [termB] at ht
    rcases hkd with rfl | ⟨rfl, _⟩
    · have e1 : ((1 : Int) == 1) = true := rfl
      clear ht hk
      refine sound_body hT Try.func65 rfl ?_
      rw [Try.results65, Try.ntmps65]
      simp only [frame, List.length_cons, List.length_nil, List.replicate, List.cons_append, List.nil_append, Nat.reduceAdd, Nat.reduceSub]
      repeat' (first
      | with_reducible first | refine aw_seq ?_ | refine aw_block ?_ | refine aw_skip ?_
      | with_reducible first | refine aw_ret ?_ | refine thenA_n ?_ | refine thenA_r ?_ | refine blockA_n ?_ | refine blockA_r ?_ | refine ends_r ?_ | refine aw_reg ?_
      | with_reducible refine al_nil ?_
      | (with_reducible apply aw_cond
         · simp only [go_sem, *]; with_reducible rfl
         all_goals (intro h; try simp only [Bool.not_eq_true', Bool.not_eq_false', reduceCtorEq] at h))
      | (with_reducible apply al_s hT true
         · first | exact gchk_none rfl | simp only [go_sem, *]
         · simp only [go_sem, encT, encMsg, *]; first | done | with_reducible rfl)
      )
      all_goals ((simp only [go_sem, *]); first | done | rfl)
    · have e1 : ((2 : Int) == 1) = false := rfl
      clear ht hk
      refine sound_body hT Try.func65 rfl ?_
      rw [Try.results65, Try.ntmps65]
      simp only [frame, List.length_cons, List.length_nil, List.replicate, List.cons_append, List.nil_append, Nat.reduceAdd, Nat.reduceSub]
      repeat' (first
      | with_reducible first | refine aw_seq ?_ | refine aw_block ?_ | refine aw_skip ?_
      | with_reducible first | refine aw_ret ?_ | refine thenA_n ?_ | refine thenA_r ?_ | refine blockA_n ?_ | refine blockA_r ?_ | refine ends_r ?_ | refine aw_reg ?_
      | with_reducible refine al_nil ?_
      | (with_reducible apply aw_cond
         · simp only [go_sem, *]; with_reducible rfl
         all_goals (intro h; try simp only [Bool.not_eq_true', Bool.not_eq_false', reduceCtorEq] at h))
      | (with_reducible apply al_s hT true
         · first | exact gchk_none rfl | simp only [go_sem, *]
         · simp only [go_sem, encT, encMsg, *]; first | done | with_reducible rfl)
      | (with_reducible apply al_skip
         · simp only [go_sem, *]
         · simp only [go_sem]; with_reducible rfl)
      )
      all_goals ((simp only [go_sem, *]); first | done | rfl)
  case inr.inr.inr.inr.inr.inl =>
    have hps : s.size ≤ 10 := by
      simp only [termB] at ht
      exact (part_ne (by simpa using (by simpa using ht : _ ∧ partB s = true).2)).2
    rcases hkd with rfl | ⟨rfl, hsz⟩
    · have e1 : ((1 : Int) == 1) = true := rfl
      have e2 : saysB ⟨6, n, s⟩ ⟨1, mn, mt⟩ = false := by simp [saysB]
      rw [e2]
      clear ht hk e2
      refine sound_body hT Try.func65 rfl ?_
      rw [Try.results65, Try.ntmps65]
      simp only [frame, List.length_cons, List.length_nil, List.replicate, List.cons_append, List.nil_append, Nat.reduceAdd, Nat.reduceSub]
      repeat' (first
      | with_reducible first | refine aw_seq ?_ | refine aw_block ?_ | refine aw_skip ?_
      | with_reducible first | refine aw_ret ?_ | refine thenA_n ?_ | refine thenA_r ?_ | refine blockA_n ?_ | refine blockA_r ?_ | refine ends_r ?_ | refine aw_reg ?_
      | (with_reducible apply aw_anyS hT (id := 14) [[], [0], [0, 1], [0, 1, 2], [0, 1, 2, 3], [0, 1, 2, 3, 4], [0, 1, 2], [0, 1, 2, 6], [0, 1, 2, 6, 7], [0, 1, 2, 3, 4, 5, 6, 7, 8], [0, 1, 2, 3, 4, 5, 6, 7, 8, 9], [0, 1, 2, 3, 4, 5, 6, 7, 8, 9, 10], [0, 1, 2, 3, 4, 5, 6, 7, 8, 9, 10, 11], [0, 1, 2, 3, 4, 5, 6, 7, 8, 9, 10, 11, 12], [0, 1, 2, 3, 4, 5, 6, 7, 8, 9, 10, 11], [0, 1, 2, 3, 4, 5, 6, 7, 8, 9, 10, 11, 14], [0, 1, 2, 3, 4, 5, 6, 7, 8, 9, 10, 11, 14, 15], [0, 1, 2, 3, 4, 5, 6, 7, 8, 9, 10, 11, 12, 13, 14, 15, 16], [0, 1, 2, 3, 4, 5, 6, 7, 8, 9, 10, 11], [0, 1, 2, 3, 4, 5, 6, 7, 8, 9, 10, 11, 18], [0, 1, 2, 3, 4, 5, 6, 7, 8, 9, 10, 11, 12, 13, 14, 15, 16, 17, 18, 19], [0, 1, 2, 3, 4, 5, 6, 7, 8, 9, 10, 11, 12, 13, 14, 15, 16, 17, 18, 19, 20], [0, 1, 2, 3, 4, 5, 6, 7, 8, 9, 10, 11, 12, 13, 14, 15, 16, 17, 18, 19, 20, 21]] [43, 44, 45, 46, 47, 48, 49, 50, 51, 52, 53, 54, 55, 56, 57, 58, 59, 60, 61, 62, 63, 64, 4]
         · rfl
         · decide +kernel
         · decide +kernel
         · simp only [go_sem, *])
      | with_reducible refine al_nil ?_
      | (with_reducible apply aw_cond
         · simp only [go_sem, *]; with_reducible rfl
         all_goals (intro h; try simp only [Bool.not_eq_true', Bool.not_eq_false', reduceCtorEq] at h))
      | with_reducible refine ad_nil ?_
      | (with_reducible apply ad_q hT
         · first | exact gchk_none rfl | simp only [go_sem, *]
         · simp only [go_sem, encT, encMsg, *]; first | done | with_reducible rfl
         · simp only [go_sem, *]
         · simp only [go_sem]; with_reducible rfl)
      | (with_reducible apply ad_assign
         · first | exact gchk_none rfl | simp only [go_sem, *]
         · rfl
         · simp only [go_sem, encT, encMsg, *]; with_reducible rfl
         · simp only [go_sem, *]
         · simp only [go_sem]; with_reducible rfl)
      | (with_reducible apply ad_skip
         · simp only [go_sem, *]
         · simp only [go_sem]; with_reducible rfl)
      | (with_reducible apply al_s hT true
         · first | exact gchk_none rfl | simp only [go_sem, *]
         · simp only [go_sem, encT, encMsg, *]; first | done | with_reducible rfl)
      )
      all_goals ((simp only [go_sem, *]); first | done | rfl)
    · have e1 : ((2 : Int) == 1) = false := rfl
      have e2 : saysB ⟨6, n, s⟩ ⟨2, mn, mt⟩ = startsS mt s := by simp [saysB]
      rw [e2]
      clear ht hk e2
      by_cases hle : s.size ≤ mt.size
      · have hd : decide ((mt.size : Int) ≥ (s.size : Int)) = true := decide_eq_true (by omega)
        have he := starts_ext hle
        have h0 : (0 : Int) ≤ (s.size : Int) := by omega
        have h1 : (s.size : Int) ≤ (mt.size : Int) := by omega
        refine sound_body hT Try.func65 rfl ?_
        rw [Try.results65, Try.ntmps65]
        simp only [frame, List.length_cons, List.length_nil, List.replicate, List.cons_append, List.nil_append, Nat.reduceAdd, Nat.reduceSub]
        repeat' (first
        | with_reducible first | refine aw_seq ?_ | refine aw_block ?_ | refine aw_skip ?_
        | with_reducible first | refine aw_ret ?_ | refine thenA_n ?_ | refine thenA_r ?_ | refine blockA_n ?_ | refine blockA_r ?_ | refine ends_r ?_ | refine aw_reg ?_
        | (with_reducible apply aw_anyS hT (id := 14) [[], [0], [0, 1], [0, 1, 2], [0, 1, 2, 3], [0, 1, 2, 3, 4], [0, 1, 2], [0, 1, 2, 6], [0, 1, 2, 6, 7], [0, 1, 2, 3, 4, 5, 6, 7, 8], [0, 1, 2, 3, 4, 5, 6, 7, 8, 9], [0, 1, 2, 3, 4, 5, 6, 7, 8, 9, 10], [0, 1, 2, 3, 4, 5, 6, 7, 8, 9, 10, 11], [0, 1, 2, 3, 4, 5, 6, 7, 8, 9, 10, 11, 12], [0, 1, 2, 3, 4, 5, 6, 7, 8, 9, 10, 11], [0, 1, 2, 3, 4, 5, 6, 7, 8, 9, 10, 11, 14], [0, 1, 2, 3, 4, 5, 6, 7, 8, 9, 10, 11, 14, 15], [0, 1, 2, 3, 4, 5, 6, 7, 8, 9, 10, 11, 12, 13, 14, 15, 16], [0, 1, 2, 3, 4, 5, 6, 7, 8, 9, 10, 11], [0, 1, 2, 3, 4, 5, 6, 7, 8, 9, 10, 11, 18], [0, 1, 2, 3, 4, 5, 6, 7, 8, 9, 10, 11, 12, 13, 14, 15, 16, 17, 18, 19], [0, 1, 2, 3, 4, 5, 6, 7, 8, 9, 10, 11, 12, 13, 14, 15, 16, 17, 18, 19, 20], [0, 1, 2, 3, 4, 5, 6, 7, 8, 9, 10, 11, 12, 13, 14, 15, 16, 17, 18, 19, 20, 21]] [43, 44, 45, 46, 47, 48, 49, 50, 51, 52, 53, 54, 55, 56, 57, 58, 59, 60, 61, 62, 63, 64, 4]
           · rfl
           · decide +kernel
           · decide +kernel
           · simp only [go_sem, *])
        | with_reducible refine al_nil ?_
        | (with_reducible apply aw_cond
           · simp only [go_sem, *]; with_reducible rfl
           all_goals (intro h; try simp only [Bool.not_eq_true', Bool.not_eq_false', reduceCtorEq] at h))
        | with_reducible refine ad_nil ?_
        | (with_reducible apply ad_q hT
           · first | exact gchk_none rfl | simp only [go_sem, *]
           · simp only [go_sem, encT, encMsg, *]; first | done | with_reducible rfl
           · simp only [go_sem, *]
           · simp only [go_sem]; with_reducible rfl)
        | (with_reducible apply ad_assign
           · first | exact gchk_none rfl | simp only [go_sem, *]
           · rfl
           · simp only [go_sem, encT, encMsg, *]; with_reducible rfl
           · simp only [go_sem, *]
           · simp only [go_sem]; with_reducible rfl)
        | (with_reducible apply al_s hT true
           · first | exact gchk_none rfl | simp only [go_sem, *]
           · simp only [go_sem, encT, encMsg, *]; first | done | with_reducible rfl)
        )
        all_goals ((simp only [go_sem, *]); first | done | rfl)
      · have hd : decide ((mt.size : Int) ≥ (s.size : Int)) = false := decide_eq_false (by omega)
        rw [starts_long hle]
        refine sound_body hT Try.func65 rfl ?_
        rw [Try.results65, Try.ntmps65]
        simp only [frame, List.length_cons, List.length_nil, List.replicate, List.cons_append, List.nil_append, Nat.reduceAdd, Nat.reduceSub]
        repeat' (first
        | with_reducible first | refine aw_seq ?_ | refine aw_block ?_ | refine aw_skip ?_
        | with_reducible first | refine aw_ret ?_ | refine thenA_n ?_ | refine thenA_r ?_ | refine blockA_n ?_ | refine blockA_r ?_ | refine ends_r ?_ | refine aw_reg ?_
        | (with_reducible apply aw_anyS hT (id := 14) [[], [0], [0, 1], [0, 1, 2], [0, 1, 2, 3], [0, 1, 2, 3, 4], [0, 1, 2], [0, 1, 2, 6], [0, 1, 2, 6, 7], [0, 1, 2, 3, 4, 5, 6, 7, 8], [0, 1, 2, 3, 4, 5, 6, 7, 8, 9], [0, 1, 2, 3, 4, 5, 6, 7, 8, 9, 10], [0, 1, 2, 3, 4, 5, 6, 7, 8, 9, 10, 11], [0, 1, 2, 3, 4, 5, 6, 7, 8, 9, 10, 11, 12], [0, 1, 2, 3, 4, 5, 6, 7, 8, 9, 10, 11], [0, 1, 2, 3, 4, 5, 6, 7, 8, 9, 10, 11, 14], [0, 1, 2, 3, 4, 5, 6, 7, 8, 9, 10, 11, 14, 15], [0, 1, 2, 3, 4, 5, 6, 7, 8, 9, 10, 11, 12, 13, 14, 15, 16], [0, 1, 2, 3, 4, 5, 6, 7, 8, 9, 10, 11], [0, 1, 2, 3, 4, 5, 6, 7, 8, 9, 10, 11, 18], [0, 1, 2, 3, 4, 5, 6, 7, 8, 9, 10, 11, 12, 13, 14, 15, 16, 17, 18, 19], [0, 1, 2, 3, 4, 5, 6, 7, 8, 9, 10, 11, 12, 13, 14, 15, 16, 17, 18, 19, 20], [0, 1, 2, 3, 4, 5, 6, 7, 8, 9, 10, 11, 12, 13, 14, 15, 16, 17, 18, 19, 20, 21]] [43, 44, 45, 46, 47, 48, 49, 50, 51, 52, 53, 54, 55, 56, 57, 58, 59, 60, 61, 62, 63, 64, 4]
           · rfl
           · decide +kernel
           · decide +kernel
           · simp only [go_sem, *])
        | with_reducible refine al_nil ?_
        | (with_reducible apply aw_cond
           · simp only [go_sem, *]; with_reducible rfl
           all_goals (intro h; try simp only [Bool.not_eq_true', Bool.not_eq_false', reduceCtorEq] at h))
        | with_reducible refine ad_nil ?_
        | (with_reducible apply ad_q hT
           · first | exact gchk_none rfl | simp only [go_sem, *]
           · simp only [go_sem, encT, encMsg, *]; first | done | with_reducible rfl
           · simp only [go_sem, *]
           · simp only [go_sem]; with_reducible rfl)
        | (with_reducible apply ad_assign
           · first | exact gchk_none rfl | simp only [go_sem, *]
           · rfl
           · simp only [go_sem, encT, encMsg, *]; with_reducible rfl
           · simp only [go_sem, *]
           · simp only [go_sem]; with_reducible rfl)
        | (with_reducible apply ad_skip
           · simp only [go_sem, *]
           · simp only [go_sem]; with_reducible rfl)
        | (with_reducible apply al_s hT true
           · first | exact gchk_none rfl | simp only [go_sem, *]
           · simp only [go_sem, encT, encMsg, *]; first | done | with_reducible rfl)
        )
        all_goals ((simp only [go_sem, *]); first | done | rfl)
  case inr.inr.inr.inr.inr.inr.inl =>
    have hps : s.data.toList ≠ [] ∧ s.size ≤ 10 := by
      simp only [termB] at ht
      exact part_ne (by simpa using (by simpa using ht : _ ∧ partB s = true).2)
    have hp1 := hps.1
    have hp2 : s.size < 4611686018427387904 := by omega
    rcases hkd with rfl | ⟨rfl, hsz⟩
    · have e1 : ((1 : Int) == 1) = true := rfl
      clear ht hk hps
      refine sound_body hT Try.func65 rfl ?_
      rw [Try.results65, Try.ntmps65]
      simp only [frame, List.length_cons, List.length_nil, List.replicate, List.cons_append, List.nil_append, Nat.reduceAdd, Nat.reduceSub]
      repeat' (first
      | with_reducible first | refine aw_seq ?_ | refine aw_block ?_ | refine aw_skip ?_
      | with_reducible first | refine aw_ret ?_ | refine thenA_n ?_ | refine thenA_r ?_ | refine blockA_n ?_ | refine blockA_r ?_ | refine ends_r ?_ | refine aw_reg ?_
      | with_reducible refine al_nil ?_
      | (with_reducible apply aw_cond
         · simp only [go_sem, *]; with_reducible rfl
         all_goals (intro h; try simp only [Bool.not_eq_true', Bool.not_eq_false', reduceCtorEq] at h))
      | (with_reducible apply al_s hT true
         · first | exact gchk_none rfl | simp only [go_sem, *]
         · simp only [go_sem, encT, encMsg, *]; first | done | with_reducible rfl)
      | (with_reducible apply al_skip
         · simp only [go_sem, *]
         · simp only [go_sem]; with_reducible rfl)
      )
      all_goals ((simp only [go_sem, *]); first | done | rfl)
    · have e1 : ((2 : Int) == 1) = false := rfl
      have hz : mt.size < 4611686018427387904 := by omega
      clear ht hk hps
      refine sound_body hT Try.func65 rfl ?_
      rw [Try.results65, Try.ntmps65]
      simp only [frame, List.length_cons, List.length_nil, List.replicate, List.cons_append, List.nil_append, Nat.reduceAdd, Nat.reduceSub]
      repeat' (first
      | with_reducible first | refine aw_seq ?_ | refine aw_block ?_ | refine aw_skip ?_
      | with_reducible first | refine aw_ret ?_ | refine thenA_n ?_ | refine thenA_r ?_ | refine blockA_n ?_ | refine blockA_r ?_ | refine ends_r ?_ | refine aw_reg ?_
      | with_reducible refine al_nil ?_
      | (with_reducible apply aw_cond
         · simp only [go_sem, *]; with_reducible rfl
         all_goals (intro h; try simp only [Bool.not_eq_true', Bool.not_eq_false', reduceCtorEq] at h))
      | (with_reducible apply al_call (f := 85)
         · first | exact gchk_none rfl | simp only [go_sem, *]
         · rfl
         · exact Try.call85
         · simp only [go_sem, encT, encMsg, *]; with_reducible rfl
         · simp only [go_sem, *]
         · first | assumption | ((with_reducible apply c_spec_l8Holds) <;> first | assumption | rfl)
         · simp only [go_sem]; with_reducible rfl)
      | (with_reducible apply al_s hT true
         · first | exact gchk_none rfl | simp only [go_sem, *]
         · simp only [go_sem, encT, encMsg, *]; first | done | with_reducible rfl)
      )
      all_goals ((simp only [go_sem, *]); first | done | rfl)
  all_goals first
    | (exfalso; revert hk; simp [takesI]; done)
    | (exfalso; revert ht; simp_all [termB]; done)
    | (rcases hkd with rfl | ⟨rfl, hsz⟩
       · have e1 : ((1 : Int) == 1) = true := rfl
         clear ht hk
         refine sound_body hT Try.func65 rfl ?_
         rw [Try.results65, Try.ntmps65]
         simp only [frame, List.length_cons, List.length_nil, List.replicate, List.cons_append, List.nil_append, Nat.reduceAdd, Nat.reduceSub]
         repeat' (first
         | with_reducible first | refine aw_seq ?_ | refine aw_block ?_ | refine aw_skip ?_
         | with_reducible first | refine aw_ret ?_ | refine thenA_n ?_ | refine thenA_r ?_ | refine blockA_n ?_ | refine blockA_r ?_ | refine ends_r ?_ | refine aw_reg ?_
         | with_reducible refine al_nil ?_
         | (with_reducible apply aw_cond
            · simp only [go_sem, *]; with_reducible rfl
            all_goals (intro h; try simp only [Bool.not_eq_true', Bool.not_eq_false', reduceCtorEq] at h))
         | (with_reducible apply al_s hT true
            · first | exact gchk_none rfl | simp only [go_sem, *]
            · simp only [go_sem, encT, encMsg, *]; first | done | with_reducible rfl)
         )
         all_goals ((simp only [go_sem, *]); first | done | rfl)
       · have e1 : ((2 : Int) == 1) = false := rfl
         clear ht hk
         refine sound_body hT Try.func65 rfl ?_
         rw [Try.results65, Try.ntmps65]
         simp only [frame, List.length_cons, List.length_nil, List.replicate, List.cons_append, List.nil_append, Nat.reduceAdd, Nat.reduceSub]
         repeat' (first
         | with_reducible first | refine aw_seq ?_ | refine aw_block ?_ | refine aw_skip ?_
         | with_reducible first | refine aw_ret ?_ | refine thenA_n ?_ | refine thenA_r ?_ | refine blockA_n ?_ | refine blockA_r ?_ | refine ends_r ?_ | refine aw_reg ?_
         | with_reducible refine al_nil ?_
         | (with_reducible apply aw_cond
            · simp only [go_sem, *]; with_reducible rfl
            all_goals (intro h; try simp only [Bool.not_eq_true', Bool.not_eq_false', reduceCtorEq] at h))
         | (with_reducible apply al_s hT true
            · first | exact gchk_none rfl | simp only [go_sem, *]
            · simp only [go_sem, encT, encMsg, *]; first | done | with_reducible rfl)
         | (with_reducible apply al_skip
            · simp only [go_sem, *]
            · simp only [go_sem]; with_reducible rfl)
         )
         all_goals ((simp only [go_sem, *]); first | done | rfl))
end Go.Proofs.Ytedjmclcjkcooaa
