/- Contracts: lists of clients; who waits and who is told stand apart. -/
import Derived.Test.YtedjmclcjkcooaaFnY
import Derived.Test.YtedjmclcjkcooaaFnXInt
import Derived.Test.YtedjmclcjkcooaaBvAt
namespace Go.Proofs.Ytedjmclcjkcooaa
open Go Go.RowKit Go.Bv
set_option linter.unusedSimpArgs false
set_option linter.unusedVariables false
set_option maxRecDepth 4000
set_option maxHeartbeats 4000000

def allQ (q : Nat → Bool) (n : Nat) : Bool := (List.range n).all q
theorem allQ_succ (q : Nat → Bool) (n : Nat) : allQ q (n + 1) = (allQ q n && q n) := by simp [allQ, List.range_succ]
theorem allQ_not {q : Nat → Bool} {i n : Nat} (h : i < n) (hq : q i = false) : allQ q n = false := by
  rw [allQ, List.all_eq_false]
  exact ⟨i, by simpa using h, by simp [hq]⟩
/-- The i-th is a client that does not stand ahead. -/
def cliQ (f : List Int) (i : Nat) : Bool := match f[i]? with
  | none => true
  | some n => (decide (n ≥ 0) && decide (n ≤ 63)) && !((f.take i).any (· == n))
def clientsB (f : List Int) : Bool := allQ (cliQ f) f.length && decide ((f.length : Int) ≤ 32)
theorem cliQ_at {f : List Int} {i : Nat} {n : Int} (h : f[i]? = some n) : cliQ f i = ((decide (n ≥ 0) && decide (n ≤ 63)) && !((f.take i).any (· == n))) := by unfold cliQ; rw [h]
theorem take_enc (f : List Int) (i : Nat) : List.take i (f.map encInt) = (f.take i).map encInt := (List.map_take ..).symm
theorem c_impl_isClient (n : Int) : Sound P 103 [.int .i64 n] (.bool (decide (n ≥ 0) && decide (n ≤ 63))) := by
  refine sound_body hT Try.func103 rfl ?_
  rw [Try.results103, Try.ntmps103]
  simp only [frame, List.length_cons, List.length_nil, List.replicate, List.cons_append, List.nil_append, Nat.reduceAdd, Nat.reduceSub]
  repeat' (first
  | with_reducible first | refine aw_seq ?_ | refine aw_block ?_ | refine aw_skip ?_ | refine aw_exit ?_
  | with_reducible first | refine aw_ret ?_ | refine thenA_n ?_ | refine thenA_r ?_ | refine thenA_x ?_ | refine blockA_n ?_ | refine blockA_r ?_ | refine blockA_e ?_ | refine blockA_x (by decide) ?_ | refine ends_r ?_ | refine ends_n ?_ | refine ends_rM ?_ | refine ends_nM ?_ | refine aw_reg ?_
  | with_reducible refine al_nil ?_
  | (with_reducible apply al_call (f := 68)
     · first | exact gchk_none rfl | simp only [go_sem, *]
     · rfl
     · exact Try.call68
     · simp only [go_sem, *]; with_reducible rfl
     · simp only [go_sem, *]
     · first | assumption | ((with_reducible apply c_impl_within) <;> first | assumption | rfl)
     · simp only [go_sem]; with_reducible rfl)
  | (with_reducible apply al_s hT true
     · first | exact gchk_none rfl | simp only [go_sem, *]
     · simp only [go_sem, *]; first | done | with_reducible rfl)
  )
  (simp only [go_sem, *])
theorem c_spec_l2Client (n : Int) : Sound P 102 [.int .i64 n] (.bool (decide (n ≥ 0) && decide (n ≤ 63))) := by
  refine sound_body hT Try.func102 rfl ?_
  rw [Try.results102, Try.ntmps102]
  simp only [frame, List.length_cons, List.length_nil, List.replicate, List.cons_append, List.nil_append, Nat.reduceAdd, Nat.reduceSub]
  repeat' (first
  | with_reducible first | refine aw_seq ?_ | refine aw_block ?_ | refine aw_skip ?_ | refine aw_exit ?_
  | with_reducible first | refine aw_ret ?_ | refine thenA_n ?_ | refine thenA_r ?_ | refine thenA_x ?_ | refine blockA_n ?_ | refine blockA_r ?_ | refine blockA_e ?_ | refine blockA_x (by decide) ?_ | refine ends_r ?_ | refine ends_n ?_ | refine ends_rM ?_ | refine ends_nM ?_ | refine aw_reg ?_
  | with_reducible refine al_nil ?_
  | (with_reducible apply al_call (f := 63)
     · first | exact gchk_none rfl | simp only [go_sem, *]
     · rfl
     · exact Try.call63
     · simp only [go_sem, *]; with_reducible rfl
     · simp only [go_sem, *]
     · first | assumption | ((with_reducible apply c_spec_l1In) <;> first | assumption | rfl)
     · simp only [go_sem]; with_reducible rfl)
  | (with_reducible apply al_s hT true
     · first | exact gchk_none rfl | simp only [go_sem, *]
     · simp only [go_sem, *]; first | done | with_reducible rfl)
  )
  (simp only [go_sem, *])
theorem c_impl_clientsOk (f : List Int) (hl : f.length ≤ 4194304) : Sound P 91 [.lst false 1 (f.map encInt)] (.bool (clientsB f)) := by
  refine sound_body hT Try.func91 rfl ?_
  rw [Try.results91, Try.ntmps91]
  simp only [frame, List.length_cons, List.length_nil, List.replicate, List.cons_append, List.nil_append, Nat.reduceAdd, Nat.reduceSub]
  repeat' (first
  | with_reducible first | refine aw_seq ?_ | refine aw_block ?_ | refine aw_skip ?_ | refine aw_exit ?_
  | with_reducible first | refine aw_ret ?_ | refine thenA_n ?_ | refine thenA_r ?_ | refine thenA_x ?_ | refine blockA_n ?_ | refine blockA_r ?_ | refine blockA_e ?_ | refine blockA_x (by decide) ?_ | refine ends_r ?_ | refine ends_n ?_ | refine ends_rM ?_ | refine ends_nM ?_ | refine aw_reg ?_
  | with_reducible refine al_nil ?_
  | (with_reducible apply al_s hT true
     · first | exact gchk_none rfl | simp only [go_sem, *]
     · simp only [go_sem, *]; first | done | with_reducible rfl)
  )
  refine aw_loop [1, 3, 4, 8, 9, 10, 11, 12, 13, 14, 15, 16, 17, 18, 19, 20, 21, 22, 23, 24, 25] (fun n S => ∃ i : Nat, n = f.length - i ∧ i ≤ f.length ∧ allQ (cliQ f) i = true ∧ S = [.lst false 1 (f.map encInt), .undef, .bool false, .undef, .undef, .lst false 1 (f.map encInt), .int .i64 f.length, .int .i64 i, .undef, .undef, .undef, .undef, .undef, .undef, .undef, .undef, .undef, .undef, .undef, .undef, .undef, .undef, .undef, .undef, .undef, .undef]) f.length ?_ ?_
  · refine ⟨0, by simp, by omega, rfl, ?_⟩
    (rw [clr_eq]; rotate_left; rfl; simp only [keepB, go_sem, Nat.reduceBEq, Nat.reduceAdd, cond_true, cond_false, *]; simp only [clrG, Nat.reduceBEq, Nat.reduceAdd, cond_true, cond_false])
    first | done | rfl
  rintro n S ⟨i, hn, hi, ha, rfl⟩
  have hwi : IntKind.i64.wrap ((i : Int) + 1) = ((i + 1 : Nat) : Int) := by rw [wrap_small] <;> omega
  by_cases hlt : i < f.length
  · have hd : decide ((i : Int) < (f.length : Int)) = true := by simp [hlt]
    obtain ⟨x, hx⟩ : ∃ x, f[i]? = some x := ⟨f[i], by simp [hlt]⟩
    have hq := cliQ_at hx
    have htk := take_enc f i
    have htl : (f.take i).length < 4611686018427387904 := by simp; omega
    have hi0 : (0 : Int) ≤ (i : Int) := by omega
    have hi1 : (i : Int) ≤ (f.length : Int) := by omega
    cases hC : (decide (x ≥ 0) && decide (x ≤ 63))
    · rw [show clientsB f = false by rw [clientsB, allQ_not hlt (by rw [hq, hC]; rfl)]; rfl]
      clear hq ha
      repeat' (first
      | with_reducible first | refine aw_seq ?_ | refine aw_block ?_ | refine aw_skip ?_ | refine aw_exit ?_
      | with_reducible first | refine aw_ret ?_ | refine thenA_n ?_ | refine thenA_r ?_ | refine thenA_x ?_ | refine blockA_n ?_ | refine blockA_r ?_ | refine blockA_e ?_ | refine blockA_x (by decide) ?_ | refine ends_r ?_ | refine ends_n ?_ | refine ends_rM ?_ | refine ends_nM ?_ | refine aw_reg ?_
      | with_reducible refine al_nil ?_
      | (with_reducible apply aw_cond
         · simp only [go_sem, *]; with_reducible rfl
         all_goals (intro h; try simp only [Bool.not_eq_true', Bool.not_eq_false', reduceCtorEq] at h))
      | (with_reducible apply al_call (f := 103)
         · first | exact gchk_none rfl | simp only [go_sem, *]
         · rfl
         · exact Try.call103
         · simp only [go_sem, encInt, *]; with_reducible rfl
         · simp only [go_sem, *]
         · first | assumption | ((with_reducible apply c_impl_isClient) <;> first | assumption | rfl)
         · simp only [go_sem]; with_reducible rfl)
      | (with_reducible apply al_s hT true
         · first | exact gchk_none rfl | simp only [go_sem, *]
         · simp only [go_sem, encInt, *]; first | done | with_reducible rfl)
      | (with_reducible apply al_skip
         · simp only [go_sem, *]
         · simp only [go_sem]; with_reducible rfl)
      )
      all_goals ((simp only [go_sem, *]); first | done | rfl)
    cases hH : (f.take i).any (· == x)
    · have hqt : cliQ f i = true := by rw [hq, hC, hH]; rfl
      clear hq
      repeat' (first
      | with_reducible first | refine aw_seq ?_ | refine aw_block ?_ | refine aw_skip ?_ | refine aw_exit ?_
      | with_reducible first | refine aw_ret ?_ | refine thenA_n ?_ | refine thenA_r ?_ | refine thenA_x ?_ | refine blockA_n ?_ | refine blockA_r ?_ | refine blockA_e ?_ | refine blockA_x (by decide) ?_ | refine ends_r ?_ | refine ends_n ?_ | refine ends_rM ?_ | refine ends_nM ?_ | refine aw_reg ?_
      | with_reducible refine al_nil ?_
      | (with_reducible apply aw_cond
         · simp only [go_sem, *]; with_reducible rfl
         all_goals (intro h; try simp only [Bool.not_eq_true', Bool.not_eq_false', reduceCtorEq] at h))
      | (with_reducible apply al_call (f := 103)
         · first | exact gchk_none rfl | simp only [go_sem, *]
         · rfl
         · exact Try.call103
         · simp only [go_sem, encInt, *]; with_reducible rfl
         · simp only [go_sem, *]
         · first | assumption | ((with_reducible apply c_impl_isClient) <;> first | assumption | rfl)
         · simp only [go_sem]; with_reducible rfl)
      | (with_reducible apply al_call (f := 49)
         · first | exact gchk_none rfl | simp only [go_sem, *]
         · rfl
         · exact Try.call49
         · simp only [go_sem, encInt, *]; with_reducible rfl
         · simp only [go_sem, *]
         · first | assumption | ((with_reducible apply c_slices_Contains_int_int) <;> first | assumption | rfl)
         · simp only [go_sem]; with_reducible rfl)
      | (with_reducible apply al_s hT true
         · first | exact gchk_none rfl | simp only [go_sem, *]
         · simp only [go_sem, encInt, *]; first | done | with_reducible rfl)
      )
      all_goals (
        refine ⟨f.length - (i + 1), by omega, i + 1, rfl, by omega, by rw [allQ_succ, ha, hqt]; rfl, ?_⟩
        (rw [clr_eq]; rotate_left; rfl; simp only [keepB, go_sem, Nat.reduceBEq, Nat.reduceAdd, cond_true, cond_false, *]; simp only [clrG, Nat.reduceBEq, Nat.reduceAdd, cond_true, cond_false])
        first | done | rfl)
    · rw [show clientsB f = false by rw [clientsB, allQ_not hlt (by rw [hq, hH]; simp)]; rfl]
      clear hq ha
      repeat' (first
      | with_reducible first | refine aw_seq ?_ | refine aw_block ?_ | refine aw_skip ?_ | refine aw_exit ?_
      | with_reducible first | refine aw_ret ?_ | refine thenA_n ?_ | refine thenA_r ?_ | refine thenA_x ?_ | refine blockA_n ?_ | refine blockA_r ?_ | refine blockA_e ?_ | refine blockA_x (by decide) ?_ | refine ends_r ?_ | refine ends_n ?_ | refine ends_rM ?_ | refine ends_nM ?_ | refine aw_reg ?_
      | with_reducible refine al_nil ?_
      | (with_reducible apply aw_cond
         · simp only [go_sem, *]; with_reducible rfl
         all_goals (intro h; try simp only [Bool.not_eq_true', Bool.not_eq_false', reduceCtorEq] at h))
      | (with_reducible apply al_call (f := 103)
         · first | exact gchk_none rfl | simp only [go_sem, *]
         · rfl
         · exact Try.call103
         · simp only [go_sem, encInt, *]; with_reducible rfl
         · simp only [go_sem, *]
         · first | assumption | ((with_reducible apply c_impl_isClient) <;> first | assumption | rfl)
         · simp only [go_sem]; with_reducible rfl)
      | (with_reducible apply al_call (f := 49)
         · first | exact gchk_none rfl | simp only [go_sem, *]
         · rfl
         · exact Try.call49
         · simp only [go_sem, encInt, *]; with_reducible rfl
         · simp only [go_sem, *]
         · first | assumption | ((with_reducible apply c_slices_Contains_int_int) <;> first | assumption | rfl)
         · simp only [go_sem]; with_reducible rfl)
      | (with_reducible apply al_s hT true
         · first | exact gchk_none rfl | simp only [go_sem, *]
         · simp only [go_sem, encInt, *]; first | done | with_reducible rfl)
      )
      all_goals ((simp only [go_sem, *]); first | done | rfl)
  · have hd : decide ((i : Int) < (f.length : Int)) = false := by simp; omega
    have e : i = f.length := by omega
    rw [show clientsB f = decide ((f.length : Int) ≤ 32) by rw [clientsB, ← e, ha, e, Bool.true_and]]
    clear e ha
    repeat' (first
    | with_reducible first | refine aw_seq ?_ | refine aw_block ?_ | refine aw_skip ?_ | refine aw_exit ?_
    | with_reducible first | refine aw_ret ?_ | refine thenA_n ?_ | refine thenA_r ?_ | refine thenA_x ?_ | refine blockA_n ?_ | refine blockA_r ?_ | refine blockA_e ?_ | refine blockA_x (by decide) ?_ | refine ends_r ?_ | refine ends_n ?_ | refine ends_rM ?_ | refine ends_nM ?_ | refine aw_reg ?_
    | with_reducible refine al_nil ?_
    | (with_reducible apply aw_cond
       · simp only [go_sem, *]; with_reducible rfl
       all_goals (intro h; try simp only [Bool.not_eq_true', Bool.not_eq_false', reduceCtorEq] at h))
    | (with_reducible apply al_s hT true
       · first | exact gchk_none rfl | simp only [go_sem, *]
       · simp only [go_sem, encInt, *]; first | done | with_reducible rfl)
    )
    all_goals ((simp only [go_sem, *]); first | done | rfl)
theorem c_impl_LineOk (f : List Int) (hl : f.length ≤ 4194304) : Sound P 90 [.lst false 1 (f.map encInt)] (.bool (clientsB f)) := by
  refine sound_body hT Try.func90 rfl ?_
  rw [Try.results90, Try.ntmps90]
  simp only [frame, List.length_cons, List.length_nil, List.replicate, List.cons_append, List.nil_append, Nat.reduceAdd, Nat.reduceSub]
  repeat' (first
  | with_reducible first | refine aw_seq ?_ | refine aw_block ?_ | refine aw_skip ?_ | refine aw_exit ?_
  | with_reducible first | refine aw_ret ?_ | refine thenA_n ?_ | refine thenA_r ?_ | refine thenA_x ?_ | refine blockA_n ?_ | refine blockA_r ?_ | refine blockA_e ?_ | refine blockA_x (by decide) ?_ | refine ends_r ?_ | refine ends_n ?_ | refine ends_rM ?_ | refine ends_nM ?_ | refine aw_reg ?_
  | with_reducible refine al_nil ?_
  | (with_reducible apply al_call (f := 91)
     · first | exact gchk_none rfl | simp only [go_sem, *]
     · rfl
     · exact Try.call91
     · simp only [go_sem, *]; with_reducible rfl
     · simp only [go_sem, *]
     · first | assumption | ((with_reducible apply c_impl_clientsOk) <;> first | assumption | rfl)
     · simp only [go_sem]; with_reducible rfl)
  | (with_reducible apply al_s hT true
     · first | exact gchk_none rfl | simp only [go_sem, *]
     · simp only [go_sem, *]; first | done | with_reducible rfl)
  )
  all_goals ((simp only [go_sem, *]); first | done | rfl)
theorem c_spec_LineOk (f : List Int) (hl : f.length ≤ 4194304) : Sound P 89 [.lst false 1 (f.map encInt)] (.bool (clientsB f)) := by
  by_cases h32 : (f.length : Int) > 32
  · have hd : decide ((f.length : Int) > 32) = true := decide_eq_true h32
    rw [show clientsB f = false by rw [clientsB, decide_eq_false (p := (f.length : Int) ≤ 32) (by omega), Bool.and_false]]
    refine sound_body hT Try.func89 rfl ?_
    rw [Try.results89, Try.ntmps89]
    simp only [frame, List.length_cons, List.length_nil, List.replicate, List.cons_append, List.nil_append, Nat.reduceAdd, Nat.reduceSub]
    repeat' (first
    | with_reducible first | refine aw_seq ?_ | refine aw_block ?_ | refine aw_skip ?_ | refine aw_exit ?_
    | with_reducible first | refine aw_ret ?_ | refine thenA_n ?_ | refine thenA_r ?_ | refine thenA_x ?_ | refine blockA_n ?_ | refine blockA_r ?_ | refine blockA_e ?_ | refine blockA_x (by decide) ?_ | refine ends_r ?_ | refine ends_n ?_ | refine ends_rM ?_ | refine ends_nM ?_ | refine aw_reg ?_
    | with_reducible refine al_nil ?_
    | (with_reducible apply aw_cond
       · simp only [go_sem, *]; with_reducible rfl
       all_goals (intro h; try simp only [Bool.not_eq_true', Bool.not_eq_false', reduceCtorEq] at h))
    | (with_reducible apply al_s hT true
       · first | exact gchk_none rfl | simp only [go_sem, *]
       · simp only [go_sem, *]; first | done | with_reducible rfl)
    )
    all_goals ((simp only [go_sem, *]); first | done | rfl)
  have hd0 : decide ((f.length : Int) > 32) = false := decide_eq_false h32
  have h33 : decide ((f.length : Int) ≤ 32) = true := decide_eq_true (by omega)
  refine sound_body hT Try.func89 rfl ?_
  rw [Try.results89, Try.ntmps89]
  simp only [frame, List.length_cons, List.length_nil, List.replicate, List.cons_append, List.nil_append, Nat.reduceAdd, Nat.reduceSub]
  repeat' (first
  | with_reducible first | refine aw_seq ?_ | refine aw_block ?_ | refine aw_skip ?_ | refine aw_exit ?_
  | with_reducible first | refine aw_ret ?_ | refine thenA_n ?_ | refine thenA_r ?_ | refine thenA_x ?_ | refine blockA_n ?_ | refine blockA_r ?_ | refine blockA_e ?_ | refine blockA_x (by decide) ?_ | refine ends_r ?_ | refine ends_n ?_ | refine ends_rM ?_ | refine ends_nM ?_ | refine aw_reg ?_
  | with_reducible refine al_nil ?_
  | (with_reducible apply aw_cond
     · simp only [go_sem, *]; with_reducible rfl
     all_goals (intro h; try simp only [Bool.not_eq_true', Bool.not_eq_false', reduceCtorEq] at h))
  | (with_reducible apply al_s hT true
     · first | exact gchk_none rfl | simp only [go_sem, *]
     · simp only [go_sem, *]; first | done | with_reducible rfl)
  )
  refine aw_loop [1, 4, 5, 6, 7, 8, 9, 10, 11, 12, 13, 14, 15, 16, 17, 18, 19, 20, 21, 22, 23, 24, 25, 26, 27, 28] (fun n S => ∃ i : Nat, n = f.length - i ∧ i ≤ f.length ∧ allQ (cliQ f) i = true ∧ S = [.lst false 1 (f.map encInt), .undef, .bool false, .int .i64 i, .undef, .undef, .undef, .undef, .undef, .undef, .undef, .undef, .undef, .undef, .undef, .undef, .undef, .undef, .undef, .undef, .undef, .undef, .undef, .undef, .undef, .undef, .undef, .undef, .undef]) f.length ?_ ?_
  · refine ⟨0, by simp, by omega, rfl, ?_⟩
    (rw [clr_eq]; rotate_left; rfl; simp only [keepB, go_sem, Nat.reduceBEq, Nat.reduceAdd, cond_true, cond_false, *]; simp only [clrG, Nat.reduceBEq, Nat.reduceAdd, cond_true, cond_false])
    first | done | rfl
  rintro n S ⟨i, hn, hi, ha, rfl⟩
  have hwi : IntKind.i64.wrap ((i : Int) + 1) = ((i + 1 : Nat) : Int) := by rw [wrap_small] <;> omega
  by_cases hlt : i < f.length
  · have hd : decide ((i : Int) < (f.length : Int)) = true := by simp [hlt]
    obtain ⟨x, hx⟩ : ∃ x, f[i]? = some x := ⟨f[i], by simp [hlt]⟩
    have hq := cliQ_at hx
    have htk := take_enc f i
    have htl : (f.take i).length < 4611686018427387904 := by simp; omega
    have hi0 : (0 : Int) ≤ (i : Int) := by omega
    have hi1 : (i : Int) ≤ (f.length : Int) := by omega
    have hi2 : (i : Int) < (f.length : Int) := by omega
    cases hC : (decide (x ≥ 0) && decide (x ≤ 63))
    · rw [show clientsB f = false by rw [clientsB, allQ_not hlt (by rw [hq, hC]; rfl)]; rfl]
      clear hq ha
      repeat' (first
      | with_reducible first | refine aw_seq ?_ | refine aw_block ?_ | refine aw_skip ?_ | refine aw_exit ?_
      | with_reducible first | refine aw_ret ?_ | refine thenA_n ?_ | refine thenA_r ?_ | refine thenA_x ?_ | refine blockA_n ?_ | refine blockA_r ?_ | refine blockA_e ?_ | refine blockA_x (by decide) ?_ | refine ends_r ?_ | refine ends_n ?_ | refine ends_rM ?_ | refine ends_nM ?_ | refine aw_reg ?_
      | (with_reducible apply aw_anyS hT (id := 6) [[], [], [0, 1], [0, 1, 2], [0, 1, 2, 3], [0, 1, 2, 3, 4], [0, 1, 2, 3, 4, 5], [0, 1, 2, 3, 4, 5, 6], [0, 1, 2, 3, 4, 5, 6], [0, 1, 2, 3, 4, 5, 6, 7, 8], [0, 1, 2, 3, 4, 5, 6], [0, 1, 2, 3, 4, 5, 6], [0, 1, 2, 3, 4, 5, 6, 10, 11], [0, 1, 2, 3, 4, 5, 6, 10, 11, 12], [0, 1, 2, 3, 4, 5, 6, 7, 8, 9, 10, 11, 12, 13], [0, 1, 2, 3, 4, 5, 6, 7, 8, 9, 10, 11, 12, 13, 14]] [13, 14, 15, 16, 17, 18, 19, 20, 21, 22, 23, 24, 25, 26, 27, 28]
         · rfl
         · decide +kernel
         · decide +kernel
         · simp only [go_sem, *])
      | with_reducible refine al_nil ?_
      | (with_reducible apply aw_cond
         · simp only [go_sem, *]; with_reducible rfl
         all_goals (intro h; try simp only [Bool.not_eq_true', Bool.not_eq_false', reduceCtorEq] at h))
      | with_reducible refine ad_nil ?_
      | (with_reducible apply ad_q hT
         · first | exact gchk_none rfl | simp only [go_sem, *]
         · simp only [go_sem, encInt, *]; first | done | with_reducible rfl
         · simp only [go_sem, *]
         · simp only [go_sem]; with_reducible rfl)
      | (with_reducible apply ad_skip
         · simp only [go_sem, *]
         · simp only [go_sem]; with_reducible rfl)
      | (with_reducible apply ad_call (f := 102)
         · first | exact gchk_none rfl | simp only [go_sem, *]
         · rfl
         · exact Try.call102
         · simp only [go_sem, encInt, *]; with_reducible rfl
         · simp only [go_sem, *]
         · first | assumption | ((with_reducible apply c_spec_l2Client) <;> first | assumption | rfl)
         · simp only [go_sem, *]
         · simp only [go_sem]; with_reducible rfl)
      | (with_reducible apply al_s hT true
         · first | exact gchk_none rfl | simp only [go_sem, *]
         · simp only [go_sem, encInt, *]; first | done | with_reducible rfl)
      )
      all_goals ((simp only [go_sem, *]); first | done | rfl)
    cases hH : (f.take i).any (· == x)
    · have hqt : cliQ f i = true := by rw [hq, hC, hH]; rfl
      clear hq
      repeat' (first
      | with_reducible first | refine aw_seq ?_ | refine aw_block ?_ | refine aw_skip ?_ | refine aw_exit ?_
      | with_reducible first | refine aw_ret ?_ | refine thenA_n ?_ | refine thenA_r ?_ | refine thenA_x ?_ | refine blockA_n ?_ | refine blockA_r ?_ | refine blockA_e ?_ | refine blockA_x (by decide) ?_ | refine ends_r ?_ | refine ends_n ?_ | refine ends_rM ?_ | refine ends_nM ?_ | refine aw_reg ?_
      | (with_reducible apply aw_anyS hT (id := 6) [[], [], [0, 1], [0, 1, 2], [0, 1, 2, 3], [0, 1, 2, 3, 4], [0, 1, 2, 3, 4, 5], [0, 1, 2, 3, 4, 5, 6], [0, 1, 2, 3, 4, 5, 6], [0, 1, 2, 3, 4, 5, 6, 7, 8], [0, 1, 2, 3, 4, 5, 6], [0, 1, 2, 3, 4, 5, 6], [0, 1, 2, 3, 4, 5, 6, 10, 11], [0, 1, 2, 3, 4, 5, 6, 10, 11, 12], [0, 1, 2, 3, 4, 5, 6, 7, 8, 9, 10, 11, 12, 13], [0, 1, 2, 3, 4, 5, 6, 7, 8, 9, 10, 11, 12, 13, 14]] [13, 14, 15, 16, 17, 18, 19, 20, 21, 22, 23, 24, 25, 26, 27, 28]
         · rfl
         · decide +kernel
         · decide +kernel
         · simp only [go_sem, *])
      | with_reducible refine al_nil ?_
      | (with_reducible apply aw_cond
         · simp only [go_sem, *]; with_reducible rfl
         all_goals (intro h; try simp only [Bool.not_eq_true', Bool.not_eq_false', reduceCtorEq] at h))
      | with_reducible refine ad_nil ?_
      | (with_reducible apply ad_q hT
         · first | exact gchk_none rfl | simp only [go_sem, *]
         · simp only [go_sem, encInt, *]; first | done | with_reducible rfl
         · simp only [go_sem, *]
         · simp only [go_sem]; with_reducible rfl)
      | (with_reducible apply ad_call (f := 102)
         · first | exact gchk_none rfl | simp only [go_sem, *]
         · rfl
         · exact Try.call102
         · simp only [go_sem, encInt, *]; with_reducible rfl
         · simp only [go_sem, *]
         · first | assumption | ((with_reducible apply c_spec_l2Client) <;> first | assumption | rfl)
         · simp only [go_sem, *]
         · simp only [go_sem]; with_reducible rfl)
      | (with_reducible apply ad_call (f := 43)
         · first | exact gchk_none rfl | simp only [go_sem, *]
         · rfl
         · exact Try.call43
         · simp only [go_sem, encInt, *]; with_reducible rfl
         · simp only [go_sem, *]
         · first | assumption | ((with_reducible apply c_spec_l2Has) <;> first | assumption | rfl)
         · simp only [go_sem, *]
         · simp only [go_sem]; with_reducible rfl)
      | (with_reducible apply al_s hT true
         · first | exact gchk_none rfl | simp only [go_sem, *]
         · simp only [go_sem, encInt, *]; first | done | with_reducible rfl)
      )
      all_goals (
        refine ⟨f.length - (i + 1), by omega, i + 1, rfl, by omega, by rw [allQ_succ, ha, hqt]; rfl, ?_⟩
        (rw [clr_eq]; rotate_left; rfl; simp only [keepB, go_sem, Nat.reduceBEq, Nat.reduceAdd, cond_true, cond_false, *]; simp only [clrG, Nat.reduceBEq, Nat.reduceAdd, cond_true, cond_false])
        first | done | rfl)
    · rw [show clientsB f = false by rw [clientsB, allQ_not hlt (by rw [hq, hH]; simp)]; rfl]
      clear hq ha
      repeat' (first
      | with_reducible first | refine aw_seq ?_ | refine aw_block ?_ | refine aw_skip ?_ | refine aw_exit ?_
      | with_reducible first | refine aw_ret ?_ | refine thenA_n ?_ | refine thenA_r ?_ | refine thenA_x ?_ | refine blockA_n ?_ | refine blockA_r ?_ | refine blockA_e ?_ | refine blockA_x (by decide) ?_ | refine ends_r ?_ | refine ends_n ?_ | refine ends_rM ?_ | refine ends_nM ?_ | refine aw_reg ?_
      | (with_reducible apply aw_anyS hT (id := 6) [[], [], [0, 1], [0, 1, 2], [0, 1, 2, 3], [0, 1, 2, 3, 4], [0, 1, 2, 3, 4, 5], [0, 1, 2, 3, 4, 5, 6], [0, 1, 2, 3, 4, 5, 6], [0, 1, 2, 3, 4, 5, 6, 7, 8], [0, 1, 2, 3, 4, 5, 6], [0, 1, 2, 3, 4, 5, 6], [0, 1, 2, 3, 4, 5, 6, 10, 11], [0, 1, 2, 3, 4, 5, 6, 10, 11, 12], [0, 1, 2, 3, 4, 5, 6, 7, 8, 9, 10, 11, 12, 13], [0, 1, 2, 3, 4, 5, 6, 7, 8, 9, 10, 11, 12, 13, 14]] [13, 14, 15, 16, 17, 18, 19, 20, 21, 22, 23, 24, 25, 26, 27, 28]
         · rfl
         · decide +kernel
         · decide +kernel
         · simp only [go_sem, *])
      | with_reducible refine al_nil ?_
      | (with_reducible apply aw_cond
         · simp only [go_sem, *]; with_reducible rfl
         all_goals (intro h; try simp only [Bool.not_eq_true', Bool.not_eq_false', reduceCtorEq] at h))
      | with_reducible refine ad_nil ?_
      | (with_reducible apply ad_q hT
         · first | exact gchk_none rfl | simp only [go_sem, *]
         · simp only [go_sem, encInt, *]; first | done | with_reducible rfl
         · simp only [go_sem, *]
         · simp only [go_sem]; with_reducible rfl)
      | (with_reducible apply ad_call (f := 102)
         · first | exact gchk_none rfl | simp only [go_sem, *]
         · rfl
         · exact Try.call102
         · simp only [go_sem, encInt, *]; with_reducible rfl
         · simp only [go_sem, *]
         · first | assumption | ((with_reducible apply c_spec_l2Client) <;> first | assumption | rfl)
         · simp only [go_sem, *]
         · simp only [go_sem]; with_reducible rfl)
      | (with_reducible apply ad_call (f := 43)
         · first | exact gchk_none rfl | simp only [go_sem, *]
         · rfl
         · exact Try.call43
         · simp only [go_sem, encInt, *]; with_reducible rfl
         · simp only [go_sem, *]
         · first | assumption | ((with_reducible apply c_spec_l2Has) <;> first | assumption | rfl)
         · simp only [go_sem, *]
         · simp only [go_sem]; with_reducible rfl)
      | (with_reducible apply al_s hT true
         · first | exact gchk_none rfl | simp only [go_sem, *]
         · simp only [go_sem, encInt, *]; first | done | with_reducible rfl)
      )
      all_goals ((simp only [go_sem, *]); first | done | rfl)
  · have hd : decide ((i : Int) < (f.length : Int)) = false := by simp; omega
    have e : i = f.length := by omega
    rw [show clientsB f = true by rw [clientsB, ← e, ha, e, h33]; rfl]
    clear e ha
    repeat' (first
    | with_reducible first | refine aw_seq ?_ | refine aw_block ?_ | refine aw_skip ?_ | refine aw_exit ?_
    | with_reducible first | refine aw_ret ?_ | refine thenA_n ?_ | refine thenA_r ?_ | refine thenA_x ?_ | refine blockA_n ?_ | refine blockA_r ?_ | refine blockA_e ?_ | refine blockA_x (by decide) ?_ | refine ends_r ?_ | refine ends_n ?_ | refine ends_rM ?_ | refine ends_nM ?_ | refine aw_reg ?_
    | with_reducible refine al_nil ?_
    | (with_reducible apply aw_cond
       · simp only [go_sem, *]; with_reducible rfl
       all_goals (intro h; try simp only [Bool.not_eq_true', Bool.not_eq_false', reduceCtorEq] at h))
    | (with_reducible apply al_s hT true
       · first | exact gchk_none rfl | simp only [go_sem, *]
       · simp only [go_sem, encInt, *]; first | done | with_reducible rfl)
    )
    all_goals ((simp only [go_sem, *]); first | done | rfl)
def apartB (f g : List Int) : Bool := clientsB f && clientsB g && !(g.any fun n => f.any (· == n))
theorem c_apart_clo (f : List Int) (n : Int) (hl : f.length < 4611686018427387904) : Sound P 93 [encInt n, .ip (.lst false 1 (f.map encInt))] (.bool (f.any (· == n))) := by
  refine sound_body hT Try.func93 rfl ?_
  rw [Try.results93, Try.ntmps93]
  simp only [frame, List.length_cons, List.length_nil, List.replicate, List.cons_append, List.nil_append, Nat.reduceAdd, Nat.reduceSub]
  repeat' (first
  | with_reducible first | refine aw_seq ?_ | refine aw_block ?_ | refine aw_skip ?_ | refine aw_exit ?_
  | with_reducible first | refine aw_ret ?_ | refine thenA_n ?_ | refine thenA_r ?_ | refine thenA_x ?_ | refine blockA_n ?_ | refine blockA_r ?_ | refine blockA_e ?_ | refine blockA_x (by decide) ?_ | refine ends_r ?_ | refine ends_n ?_ | refine ends_rM ?_ | refine ends_nM ?_ | refine aw_reg ?_
  | with_reducible refine al_nil ?_
  | (with_reducible apply al_call (f := 49)
     · first | exact gchk_none rfl | simp only [go_sem, *]
     · rfl
     · exact Try.call49
     · simp only [go_sem, encInt, *]; with_reducible rfl
     · simp only [go_sem, *]
     · first | assumption | ((with_reducible apply c_slices_Contains_int_int) <;> first | assumption | rfl)
     · simp only [go_sem]; with_reducible rfl)
  | (with_reducible apply al_s hT true
     · first | exact gchk_none rfl | simp only [go_sem, *]
     · simp only [go_sem, encInt, *]; first | done | with_reducible rfl)
  )
  all_goals ((simp only [go_sem, *]); first | done | rfl)
theorem c_impl_apart (f g : List Int) (hf : f.length ≤ 4194304) (hg : g.length ≤ 4194304) : Sound P 73 [.lst false 1 (f.map encInt), .lst false 1 (g.map encInt)] (.bool (apartB f g)) := by
  have hp : ∀ x ∈ g, Sound P 93 (encInt x :: [.ip (.lst false 1 (f.map encInt))]) (.bool ((fun n => f.any (· == n)) x)) := fun x _ => c_apart_clo f x (by omega)
  have hc := c_slices_ContainsFunc_int_int g _ hp Try.call93 (by simp only [ipsA, plA, plAs_Int, Bool.and_self]) (by omega)
  clear hp
  cases hA : clientsB f
  · rw [show apartB f g = false by simp only [apartB, hA, Bool.false_and]]
    refine sound_body hT Try.func73 rfl ?_
    rw [Try.results73, Try.ntmps73]
    simp only [frame, List.length_cons, List.length_nil, List.replicate, List.cons_append, List.nil_append, Nat.reduceAdd, Nat.reduceSub]
    repeat' (first
    | with_reducible first | refine aw_seq ?_ | refine aw_block ?_ | refine aw_skip ?_ | refine aw_exit ?_
    | with_reducible first | refine aw_ret ?_ | refine thenA_n ?_ | refine thenA_r ?_ | refine thenA_x ?_ | refine blockA_n ?_ | refine blockA_r ?_ | refine blockA_e ?_ | refine blockA_x (by decide) ?_ | refine ends_r ?_ | refine ends_n ?_ | refine ends_rM ?_ | refine ends_nM ?_ | refine aw_reg ?_
    | with_reducible refine al_nil ?_
    | (with_reducible apply al_call (f := 90)
       · first | exact gchk_none rfl | simp only [go_sem, *]
       · rfl
       · exact Try.call90
       · simp only [go_sem, *]; with_reducible rfl
       · simp only [go_sem, *]
       · first | assumption | ((with_reducible apply c_impl_LineOk) <;> first | assumption | rfl)
       · simp only [go_sem]; with_reducible rfl)
    | (with_reducible apply al_s hT true
       · first | exact gchk_none rfl | simp only [go_sem, *]
       · simp only [go_sem, *]; first | done | with_reducible rfl)
    | (with_reducible apply al_skip
       · simp only [go_sem, *]
       · simp only [go_sem]; with_reducible rfl)
    )
    all_goals ((simp only [go_sem, *]); first | done | rfl)
  cases hB : clientsB g
  · rw [show apartB f g = false by simp only [apartB, hB, Bool.false_and, Bool.and_false]]
    refine sound_body hT Try.func73 rfl ?_
    rw [Try.results73, Try.ntmps73]
    simp only [frame, List.length_cons, List.length_nil, List.replicate, List.cons_append, List.nil_append, Nat.reduceAdd, Nat.reduceSub]
    repeat' (first
    | with_reducible first | refine aw_seq ?_ | refine aw_block ?_ | refine aw_skip ?_ | refine aw_exit ?_
    | with_reducible first | refine aw_ret ?_ | refine thenA_n ?_ | refine thenA_r ?_ | refine thenA_x ?_ | refine blockA_n ?_ | refine blockA_r ?_ | refine blockA_e ?_ | refine blockA_x (by decide) ?_ | refine ends_r ?_ | refine ends_n ?_ | refine ends_rM ?_ | refine ends_nM ?_ | refine aw_reg ?_
    | with_reducible refine al_nil ?_
    | (with_reducible apply al_call (f := 90)
       · first | exact gchk_none rfl | simp only [go_sem, *]
       · rfl
       · exact Try.call90
       · simp only [go_sem, *]; with_reducible rfl
       · simp only [go_sem, *]
       · first | assumption | ((with_reducible apply c_impl_LineOk) <;> first | assumption | rfl)
       · simp only [go_sem]; with_reducible rfl)
    | (with_reducible apply al_call (f := 91)
       · first | exact gchk_none rfl | simp only [go_sem, *]
       · rfl
       · exact Try.call91
       · simp only [go_sem, *]; with_reducible rfl
       · simp only [go_sem, *]
       · first | assumption | ((with_reducible apply c_impl_clientsOk) <;> first | assumption | rfl)
       · simp only [go_sem]; with_reducible rfl)
    | (with_reducible apply al_s hT true
       · first | exact gchk_none rfl | simp only [go_sem, *]
       · simp only [go_sem, *]; first | done | with_reducible rfl)
    | (with_reducible apply al_skip
       · simp only [go_sem, *]
       · simp only [go_sem]; with_reducible rfl)
    )
    all_goals ((simp only [go_sem, *]); first | done | rfl)
  rw [show apartB f g = !(g.any fun n => f.any (· == n)) by simp only [apartB, hA, hB, Bool.and_self, Bool.true_and]]
  refine sound_body hT Try.func73 rfl ?_
  rw [Try.results73, Try.ntmps73]
  simp only [frame, List.length_cons, List.length_nil, List.replicate, List.cons_append, List.nil_append, Nat.reduceAdd, Nat.reduceSub]
  repeat' (first
  | with_reducible first | refine aw_seq ?_ | refine aw_block ?_ | refine aw_skip ?_ | refine aw_exit ?_
  | with_reducible first | refine aw_ret ?_ | refine thenA_n ?_ | refine thenA_r ?_ | refine thenA_x ?_ | refine blockA_n ?_ | refine blockA_r ?_ | refine blockA_e ?_ | refine blockA_x (by decide) ?_ | refine ends_r ?_ | refine ends_n ?_ | refine ends_rM ?_ | refine ends_nM ?_ | refine aw_reg ?_
  | with_reducible refine al_nil ?_
  | (with_reducible apply al_call (f := 90)
     · first | exact gchk_none rfl | simp only [go_sem, *]
     · rfl
     · exact Try.call90
     · simp only [go_sem, *]; with_reducible rfl
     · simp only [go_sem, *]
     · first | assumption | ((with_reducible apply c_impl_LineOk) <;> first | assumption | rfl)
     · simp only [go_sem]; with_reducible rfl)
  | (with_reducible apply al_call (f := 91)
     · first | exact gchk_none rfl | simp only [go_sem, *]
     · rfl
     · exact Try.call91
     · simp only [go_sem, *]; with_reducible rfl
     · simp only [go_sem, *]
     · first | assumption | ((with_reducible apply c_impl_clientsOk) <;> first | assumption | rfl)
     · simp only [go_sem]; with_reducible rfl)
  | (with_reducible apply al_snap (f := 92)
     · first | exact gchk_none rfl | simp only [go_sem, *]
     · rfl
     · exact Try.call92
     · simp only [go_sem, *]; with_reducible rfl
     · simp only [go_sem, *]; with_reducible rfl
     · first | assumption | ((with_reducible apply c_slices_ContainsFunc_int_int) <;> first | assumption | rfl)
     · simp only [go_sem, *]
     · simp only [go_sem]; with_reducible rfl)
  | (with_reducible apply al_s hT true
     · first | exact gchk_none rfl | simp only [go_sem, *]
     · simp only [go_sem, *]; first | done | with_reducible rfl)
  )
  all_goals ((simp only [go_sem, *]); first | done | rfl)
theorem c_spec_l6Waits (f g : List Int) (hf : f.length ≤ 4194304) (hg : g.length ≤ 4194304) : Sound P 71 [.lst false 1 (f.map encInt), .lst false 1 (g.map encInt)] (.bool (apartB f g)) := by
  have hfl : f.length < 4611686018427387904 := by omega
  cases hA : clientsB f
  · rw [show apartB f g = false by simp only [apartB, hA, Bool.false_and]]
    refine sound_body hT Try.func71 rfl ?_
    rw [Try.results71, Try.ntmps71]
    simp only [frame, List.length_cons, List.length_nil, List.replicate, List.cons_append, List.nil_append, Nat.reduceAdd, Nat.reduceSub]
    repeat' (first
    | with_reducible first | refine aw_seq ?_ | refine aw_block ?_ | refine aw_skip ?_ | refine aw_exit ?_
    | with_reducible first | refine aw_ret ?_ | refine thenA_n ?_ | refine thenA_r ?_ | refine thenA_x ?_ | refine blockA_n ?_ | refine blockA_r ?_ | refine blockA_e ?_ | refine blockA_x (by decide) ?_ | refine ends_r ?_ | refine ends_n ?_ | refine ends_rM ?_ | refine ends_nM ?_ | refine aw_reg ?_
    | with_reducible refine al_nil ?_
    | (with_reducible apply aw_cond
       · simp only [go_sem, *]; with_reducible rfl
       all_goals (intro h; try simp only [Bool.not_eq_true', Bool.not_eq_false', reduceCtorEq] at h))
    | (with_reducible apply al_call (f := 89)
       · first | exact gchk_none rfl | simp only [go_sem, *]
       · rfl
       · exact Try.call89
       · simp only [go_sem, *]; with_reducible rfl
       · simp only [go_sem, *]
       · first | assumption | ((with_reducible apply c_spec_LineOk) <;> first | assumption | rfl)
       · simp only [go_sem]; with_reducible rfl)
    | (with_reducible apply al_s hT true
       · first | exact gchk_none rfl | simp only [go_sem, *]
       · simp only [go_sem, *]; first | done | with_reducible rfl)
    | (with_reducible apply al_skip
       · simp only [go_sem, *]
       · simp only [go_sem]; with_reducible rfl)
    )
    all_goals ((simp only [go_sem, *]); first | done | rfl)
  cases hB : clientsB g
  · rw [show apartB f g = false by simp only [apartB, hB, Bool.false_and, Bool.and_false]]
    refine sound_body hT Try.func71 rfl ?_
    rw [Try.results71, Try.ntmps71]
    simp only [frame, List.length_cons, List.length_nil, List.replicate, List.cons_append, List.nil_append, Nat.reduceAdd, Nat.reduceSub]
    repeat' (first
    | with_reducible first | refine aw_seq ?_ | refine aw_block ?_ | refine aw_skip ?_ | refine aw_exit ?_
    | with_reducible first | refine aw_ret ?_ | refine thenA_n ?_ | refine thenA_r ?_ | refine thenA_x ?_ | refine blockA_n ?_ | refine blockA_r ?_ | refine blockA_e ?_ | refine blockA_x (by decide) ?_ | refine ends_r ?_ | refine ends_n ?_ | refine ends_rM ?_ | refine ends_nM ?_ | refine aw_reg ?_
    | with_reducible refine al_nil ?_
    | (with_reducible apply aw_cond
       · simp only [go_sem, *]; with_reducible rfl
       all_goals (intro h; try simp only [Bool.not_eq_true', Bool.not_eq_false', reduceCtorEq] at h))
    | (with_reducible apply al_call (f := 89)
       · first | exact gchk_none rfl | simp only [go_sem, *]
       · rfl
       · exact Try.call89
       · simp only [go_sem, *]; with_reducible rfl
       · simp only [go_sem, *]
       · first | assumption | ((with_reducible apply c_spec_LineOk) <;> first | assumption | rfl)
       · simp only [go_sem]; with_reducible rfl)
    | (with_reducible apply al_s hT true
       · first | exact gchk_none rfl | simp only [go_sem, *]
       · simp only [go_sem, *]; first | done | with_reducible rfl)
    )
    all_goals ((simp only [go_sem, *]); first | done | rfl)
  rw [show apartB f g = !(g.any fun n => f.any (· == n)) by simp only [apartB, hA, hB, Bool.and_self, Bool.true_and]]
  refine sound_body hT Try.func71 rfl ?_
  rw [Try.results71, Try.ntmps71]
  simp only [frame, List.length_cons, List.length_nil, List.replicate, List.cons_append, List.nil_append, Nat.reduceAdd, Nat.reduceSub]
  repeat' (first
  | with_reducible first | refine aw_seq ?_ | refine aw_block ?_ | refine aw_skip ?_ | refine aw_exit ?_
  | with_reducible first | refine aw_ret ?_ | refine thenA_n ?_ | refine thenA_r ?_ | refine thenA_x ?_ | refine blockA_n ?_ | refine blockA_r ?_ | refine blockA_e ?_ | refine blockA_x (by decide) ?_ | refine ends_r ?_ | refine ends_n ?_ | refine ends_rM ?_ | refine ends_nM ?_ | refine aw_reg ?_
  | with_reducible refine al_nil ?_
  | (with_reducible apply aw_cond
     · simp only [go_sem, *]; with_reducible rfl
     all_goals (intro h; try simp only [Bool.not_eq_true', Bool.not_eq_false', reduceCtorEq] at h))
  | (with_reducible apply al_call (f := 89)
     · first | exact gchk_none rfl | simp only [go_sem, *]
     · rfl
     · exact Try.call89
     · simp only [go_sem, *]; with_reducible rfl
     · simp only [go_sem, *]
     · first | assumption | ((with_reducible apply c_spec_LineOk) <;> first | assumption | rfl)
     · simp only [go_sem]; with_reducible rfl)
  | (with_reducible apply al_s hT true
     · first | exact gchk_none rfl | simp only [go_sem, *]
     · simp only [go_sem, *]; first | done | with_reducible rfl)
  )
  refine aw_loop [2, 3, 6, 7, 8, 9, 10, 11, 12, 13, 14, 15, 16, 17, 18, 19, 20, 21, 22, 23, 24, 25] (fun n S => ∃ i : Nat, n = g.length - i ∧ i ≤ g.length ∧ ((g.take i).any fun n => f.any (· == n)) = false ∧ S = [.lst false 1 (f.map encInt), .lst false 1 (g.map encInt), .undef, .undef, .bool false, .int .i64 i, .undef, .undef, .undef, .undef, .undef, .undef, .undef, .undef, .undef, .undef, .undef, .undef, .undef, .undef, .undef, .undef, .undef, .undef, .undef, .undef]) g.length ?_ ?_
  · refine ⟨0, by simp, by omega, rfl, ?_⟩
    (rw [clr_eq]; rotate_left; rfl; simp only [keepB, go_sem, Nat.reduceBEq, Nat.reduceAdd, cond_true, cond_false, *]; simp only [clrG, Nat.reduceBEq, Nat.reduceAdd, cond_true, cond_false])
    first | done | rfl
  rintro n S ⟨i, hn, hi, ha, rfl⟩
  have hwi : IntKind.i64.wrap ((i : Int) + 1) = ((i + 1 : Nat) : Int) := by rw [wrap_small] <;> omega
  by_cases hlt : i < g.length
  · have hd : decide ((i : Int) < (g.length : Int)) = true := by simp [hlt]
    obtain ⟨x, hx⟩ : ∃ x, g[i]? = some x := ⟨g[i], by simp [hlt]⟩
    have hs : ((g.take (i + 1)).any fun n => f.any (· == n)) = f.any (· == x) := by
      rw [List.take_add_one, hx, List.any_append, ha]; simp
    have hi0 : (0 : Int) ≤ (i : Int) := by omega
    have hi1 : (i : Int) < (g.length : Int) := by omega
    cases hH : f.any (· == x)
    · rw [hH] at hs
      have hK := Kept.mk hs
      clear hs ha
      repeat' (first
      | with_reducible first | refine aw_seq ?_ | refine aw_block ?_ | refine aw_skip ?_ | refine aw_exit ?_
      | with_reducible first | refine aw_ret ?_ | refine thenA_n ?_ | refine thenA_r ?_ | refine thenA_x ?_ | refine blockA_n ?_ | refine blockA_r ?_ | refine blockA_e ?_ | refine blockA_x (by decide) ?_ | refine ends_r ?_ | refine ends_n ?_ | refine ends_rM ?_ | refine ends_nM ?_ | refine aw_reg ?_
      | with_reducible refine al_nil ?_
      | (with_reducible apply aw_cond
         · simp only [go_sem, *]; with_reducible rfl
         all_goals (intro h; try simp only [Bool.not_eq_true', Bool.not_eq_false', reduceCtorEq] at h))
      | (with_reducible apply al_call (f := 43)
         · first | exact gchk_none rfl | simp only [go_sem, *]
         · rfl
         · exact Try.call43
         · simp only [go_sem, encInt, *]; with_reducible rfl
         · simp only [go_sem, *]
         · first | assumption | ((with_reducible apply c_spec_l2Has) <;> first | assumption | rfl)
         · simp only [go_sem]; with_reducible rfl)
      | (with_reducible apply al_s hT true
         · first | exact gchk_none rfl | simp only [go_sem, *]
         · simp only [go_sem, encInt, *]; first | done | with_reducible rfl)
      )
      all_goals (
        refine ⟨g.length - (i + 1), by omega, i + 1, rfl, by omega, hK.out, ?_⟩
        clear hK
        (rw [clr_eq]; rotate_left; rfl; simp only [keepB, go_sem, Nat.reduceBEq, Nat.reduceAdd, cond_true, cond_false, *]; simp only [clrG, Nat.reduceBEq, Nat.reduceAdd, cond_true, cond_false])
        first | done | rfl)
    · have hm : (g.any fun n => f.any (· == n)) = true := List.any_eq_true.2 ⟨x, List.mem_of_getElem? hx, hH⟩
      rw [hm]
      clear hs ha hm
      repeat' (first
      | with_reducible first | refine aw_seq ?_ | refine aw_block ?_ | refine aw_skip ?_ | refine aw_exit ?_
      | with_reducible first | refine aw_ret ?_ | refine thenA_n ?_ | refine thenA_r ?_ | refine thenA_x ?_ | refine blockA_n ?_ | refine blockA_r ?_ | refine blockA_e ?_ | refine blockA_x (by decide) ?_ | refine ends_r ?_ | refine ends_n ?_ | refine ends_rM ?_ | refine ends_nM ?_ | refine aw_reg ?_
      | with_reducible refine al_nil ?_
      | (with_reducible apply aw_cond
         · simp only [go_sem, *]; with_reducible rfl
         all_goals (intro h; try simp only [Bool.not_eq_true', Bool.not_eq_false', reduceCtorEq] at h))
      | (with_reducible apply al_call (f := 43)
         · first | exact gchk_none rfl | simp only [go_sem, *]
         · rfl
         · exact Try.call43
         · simp only [go_sem, encInt, *]; with_reducible rfl
         · simp only [go_sem, *]
         · first | assumption | ((with_reducible apply c_spec_l2Has) <;> first | assumption | rfl)
         · simp only [go_sem]; with_reducible rfl)
      | (with_reducible apply al_s hT true
         · first | exact gchk_none rfl | simp only [go_sem, *]
         · simp only [go_sem, encInt, *]; first | done | with_reducible rfl)
      )
      all_goals ((simp only [go_sem, *]); first | done | rfl)
  · have hd : decide ((i : Int) < (g.length : Int)) = false := by simp; omega
    rw [List.take_of_length_le (by omega)] at ha
    rw [ha]
    clear ha
    repeat' (first
    | with_reducible first | refine aw_seq ?_ | refine aw_block ?_ | refine aw_skip ?_ | refine aw_exit ?_
    | with_reducible first | refine aw_ret ?_ | refine thenA_n ?_ | refine thenA_r ?_ | refine thenA_x ?_ | refine blockA_n ?_ | refine blockA_r ?_ | refine blockA_e ?_ | refine blockA_x (by decide) ?_ | refine ends_r ?_ | refine ends_n ?_ | refine ends_rM ?_ | refine ends_nM ?_ | refine aw_reg ?_
    | with_reducible refine al_nil ?_
    | (with_reducible apply aw_cond
       · simp only [go_sem, *]; with_reducible rfl
       all_goals (intro h; try simp only [Bool.not_eq_true', Bool.not_eq_false', reduceCtorEq] at h))
    | (with_reducible apply al_s hT true
       · first | exact gchk_none rfl | simp only [go_sem, *]
       · simp only [go_sem, encInt, *]; first | done | with_reducible rfl)
    )
    all_goals ((simp only [go_sem, *]); first | done | rfl)
end Go.Proofs.Ytedjmclcjkcooaa
