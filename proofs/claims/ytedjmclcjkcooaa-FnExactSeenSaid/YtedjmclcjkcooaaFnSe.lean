/- Contracts: cells that are right; Seen, of the program and of the specification; the law. -/
import Derived.Test.YtedjmclcjkcooaaFnCl
import Derived.Test.YtedjmclcjkcooaaGlCell
import Derived.Test.YtedjmclcjkcooaaBvAt
namespace Go.Proofs.Ytedjmclcjkcooaa
open Go Go.RowKit Go.Bv
set_option linter.unusedSimpArgs false
set_option linter.unusedVariables false
set_option maxRecDepth 4000
set_option maxHeartbeats 8000000
-- VIEWS

theorem noSh_Msg0 (x : MsgV) : noSh (encMsg false x) = true := by simp only [encMsg, noSh, noShs, Bool.and_self]
attribute [go_sem] noSh_Msg0
def cellB (c : CellV) : Bool := msgB c.val && (decide (c.version ≥ 0) && decide (c.version ≤ 1000000000)) && apartB c.line c.grants && !(c.closed && decide ((c.line.length : Int) > 0))
theorem nodup_take {A : List Int} (h : ∀ i id, A[i]? = some id → ((A.take i).any (· == id)) = false) : A.Nodup := by
  rw [List.Nodup, List.pairwise_iff_getElem]
  intro i j hi hj hij e
  have := h j A[j] (by simp [hj])
  rw [List.any_eq_false] at this
  refine this A[i] ?_ (by simp [e])
  rw [List.mem_take_iff_getElem]
  exact ⟨i, by omega, rfl⟩
theorem clients_nodup {f : List Int} (h : clientsB f = true) : f.Nodup := nodup_take fun i id hi => by
  rw [clientsB, Bool.and_eq_true, allQ, List.all_eq_true] at h
  have := h.1 i (by simpa using (List.getElem?_eq_some_iff.1 hi).1)
  rw [cliQ_at hi, Bool.and_eq_true] at this
  simpa using this.2
theorem cell_nodup {c : CellV} (h : cellB c = true) : c.grants.Nodup := by
  simp only [cellB, apartB, Bool.and_eq_true] at h
  exact clients_nodup h.1.2.1.2
theorem c_impl_CellOk (c : CellV) {u : AV} (hu : u = encCell false c) (hm : okMsg c.val) (h1 : c.line.length ≤ 4194304) (h2 : c.grants.length ≤ 4194304) : Sound P 48 [u] (.bool (cellB c)) := by
  subst hu
  obtain ⟨b, hb⟩ : ∃ b, cellB c = b := ⟨_, rfl⟩
  rw [hb]
  unfold cellB at hb
  cases hM : msgB c.val <;> cases hV : (decide (c.version ≥ 0) && decide (c.version ≤ 1000000000)) <;> cases hA : apartB c.line c.grants <;> cases hC : c.closed
  all_goals (
    simp only [hM, hV, hA, hC, Bool.and_self, Bool.and_false, Bool.false_and, Bool.true_and, Bool.and_true, Bool.not_false, Bool.not_true] at hb
    subst hb
    refine sound_body hT Try.func48 rfl ?_
    rw [Try.results48, Try.ntmps48]
    simp only [frame, List.length_cons, List.length_nil, List.replicate, List.cons_append, List.nil_append, Nat.reduceAdd, Nat.reduceSub]
    repeat' (first
    | with_reducible first | refine aw_seq ?_ | refine aw_block ?_ | refine aw_skip ?_ | refine aw_exit ?_
    | with_reducible first | refine aw_ret ?_ | refine thenA_n ?_ | refine thenA_r ?_ | refine thenA_x ?_ | refine blockA_n ?_ | refine blockA_r ?_ | refine blockA_e ?_ | refine blockA_x (by decide) ?_ | refine ends_r ?_ | refine ends_n ?_ | refine ends_rM ?_ | refine ends_nM ?_ | refine aw_reg ?_
    | with_reducible refine al_nil ?_
    | (with_reducible apply al_call (f := 37)
       · first | exact gchk_none rfl | simp only [go_sem, *]
       · rfl
       · exact Try.call37
       · simp only [go_sem, encCell, encMsg, *]; with_reducible rfl
       · simp only [go_sem, *]
       · first | assumption | ((with_reducible apply c_impl_MsgOk) <;> first | assumption | rfl)
       · simp only [go_sem]; with_reducible rfl)
    | (with_reducible apply al_call (f := 72)
       · first | exact gchk_none rfl | simp only [go_sem, *]
       · rfl
       · exact Try.call72
       · simp only [go_sem, encCell, encMsg, *]; with_reducible rfl
       · simp only [go_sem, *]
       · first | assumption | ((with_reducible apply c_impl_isCount) <;> first | assumption | rfl)
       · simp only [go_sem]; with_reducible rfl)
    | (with_reducible apply al_call (f := 73)
       · first | exact gchk_none rfl | simp only [go_sem, *]
       · rfl
       · exact Try.call73
       · simp only [go_sem, encCell, encMsg, *]; with_reducible rfl
       · simp only [go_sem, *]
       · first | assumption | ((with_reducible apply c_impl_apart) <;> first | assumption | rfl)
       · simp only [go_sem]; with_reducible rfl)
    | (with_reducible apply al_s hT true
       · first | exact gchk_none rfl | simp only [go_sem, *]
       · simp only [go_sem, encCell, encMsg, *]; first | done | with_reducible rfl)
    | (with_reducible apply al_skip
       · simp only [go_sem, *]
       · simp only [go_sem]; with_reducible rfl)
    )
    all_goals ((simp only [go_sem, *]); first | done | rfl))
theorem c_spec_CellOk (c : CellV) {u : AV} (hu : u = encCell false c) (hm : okMsg c.val) (h1 : c.line.length ≤ 4194304) (h2 : c.grants.length ≤ 4194304) : Sound P 42 [u] (.bool (cellB c)) := by
  subst hu
  obtain ⟨b, hb⟩ : ∃ b, cellB c = b := ⟨_, rfl⟩
  rw [hb]
  unfold cellB at hb
  cases hM : msgB c.val <;> cases hV : (decide (c.version ≥ 0) && decide (c.version ≤ 1000000000)) <;> cases hA : apartB c.line c.grants <;> cases hC : c.closed
  all_goals (
    simp only [hM, hV, hA, hC, Bool.and_self, Bool.and_false, Bool.false_and, Bool.true_and, Bool.and_true, Bool.not_false, Bool.not_true] at hb
    subst hb
    refine sound_body hT Try.func42 rfl ?_
    rw [Try.results42, Try.ntmps42]
    simp only [frame, List.length_cons, List.length_nil, List.replicate, List.cons_append, List.nil_append, Nat.reduceAdd, Nat.reduceSub]
    repeat' (first
    | with_reducible first | refine aw_seq ?_ | refine aw_block ?_ | refine aw_skip ?_ | refine aw_exit ?_
    | with_reducible first | refine aw_ret ?_ | refine thenA_n ?_ | refine thenA_r ?_ | refine thenA_x ?_ | refine blockA_n ?_ | refine blockA_r ?_ | refine blockA_e ?_ | refine blockA_x (by decide) ?_ | refine ends_r ?_ | refine ends_n ?_ | refine ends_rM ?_ | refine ends_nM ?_ | refine aw_reg ?_
    | with_reducible refine al_nil ?_
    | (with_reducible apply al_call (f := 33)
       · first | exact gchk_none rfl | simp only [go_sem, *]
       · rfl
       · exact Try.call33
       · simp only [go_sem, encCell, encMsg, *]; with_reducible rfl
       · simp only [go_sem, *]
       · first | assumption | ((with_reducible apply c_spec_MsgOk) <;> first | assumption | rfl)
       · simp only [go_sem]; with_reducible rfl)
    | (with_reducible apply al_call (f := 63)
       · first | exact gchk_none rfl | simp only [go_sem, *]
       · rfl
       · exact Try.call63
       · simp only [go_sem, encCell, encMsg, *]; with_reducible rfl
       · simp only [go_sem, *]
       · first | assumption | ((with_reducible apply c_spec_l1In) <;> first | assumption | rfl)
       · simp only [go_sem]; with_reducible rfl)
    | (with_reducible apply al_call (f := 71)
       · first | exact gchk_none rfl | simp only [go_sem, *]
       · rfl
       · exact Try.call71
       · simp only [go_sem, encCell, encMsg, *]; with_reducible rfl
       · simp only [go_sem, *]
       · first | assumption | ((with_reducible apply c_spec_l6Waits) <;> first | assumption | rfl)
       · simp only [go_sem]; with_reducible rfl)
    | (with_reducible apply al_s hT true
       · first | exact gchk_none rfl | simp only [go_sem, *]
       · simp only [go_sem, encCell, encMsg, *]; first | done | with_reducible rfl)
    | (with_reducible apply al_skip
       · simp only [go_sem, *]
       · simp only [go_sem]; with_reducible rfl)
    )
    all_goals ((simp only [go_sem, *]); first | done | rfl))
theorem c_impl_copyCell (c : CellV) {u : AV} (hu : u = encCell false c) (h1 : c.line.length ≤ 4194304) (h2 : c.grants.length ≤ 4194304) : Sound P 47 [u] (encCell true c) := by
  subst hu
  refine sound_body hT Try.func47 rfl ?_
  rw [Try.results47, Try.ntmps47]
  simp only [frame, List.length_cons, List.length_nil, List.replicate, List.cons_append, List.nil_append, Nat.reduceAdd, Nat.reduceSub]
  repeat' (first
  | with_reducible first | refine aw_seq ?_ | refine aw_block ?_ | refine aw_skip ?_ | refine aw_exit ?_
  | with_reducible first | refine aw_ret ?_ | refine thenA_n ?_ | refine thenA_r ?_ | refine thenA_x ?_ | refine blockA_n ?_ | refine blockA_r ?_ | refine blockA_e ?_ | refine blockA_x (by decide) ?_ | refine ends_r ?_ | refine ends_n ?_ | refine ends_rM ?_ | refine ends_nM ?_ | refine aw_reg ?_
  | with_reducible refine al_nil ?_
  | (with_reducible apply al_call (f := 57)
     · first | exact gchk_none rfl | simp only [go_sem, *]
     · rfl
     · exact Try.call57
     · simp only [go_sem, encCell, encMsg, zeroCell, *]; with_reducible rfl
     · simp only [go_sem, *]
     · first | assumption | ((with_reducible apply c_slices_Clone_int_int) <;> first | assumption | rfl)
     · simp only [go_sem]; with_reducible rfl)
  | (with_reducible apply al_s hT false
     · first | exact gchk_none rfl | simp only [go_sem, *]
     · simp only [go_sem, encCell, encMsg, zeroCell, *]; first | done | with_reducible rfl)
  )
  all_goals ((simp only [go_sem, *]); first | done | rfl)
theorem c_spec_l7Copy (c : CellV) {u : AV} (hu : u = encCell false c) (h1 : c.line.length ≤ 4194304) (h2 : c.grants.length ≤ 4194304) : Sound P 41 [u] (encCell true c) := by
  subst hu
  refine sound_body hT Try.func41 rfl ?_
  rw [Try.results41, Try.ntmps41]
  simp only [frame, List.length_cons, List.length_nil, List.replicate, List.cons_append, List.nil_append, Nat.reduceAdd, Nat.reduceSub]
  repeat' (first
  | with_reducible first | refine aw_seq ?_ | refine aw_block ?_ | refine aw_skip ?_ | refine aw_exit ?_
  | with_reducible first | refine aw_ret ?_ | refine thenA_n ?_ | refine thenA_r ?_ | refine thenA_x ?_ | refine blockA_n ?_ | refine blockA_r ?_ | refine blockA_e ?_ | refine blockA_x (by decide) ?_ | refine ends_r ?_ | refine ends_n ?_ | refine ends_rM ?_ | refine ends_nM ?_ | refine aw_reg ?_
  | with_reducible refine al_nil ?_
  | (with_reducible apply al_call (f := 70)
     · first | exact gchk_none rfl | simp only [go_sem, *]
     · rfl
     · exact Try.call70
     · simp only [go_sem, encCell, encMsg, zeroCell, *]; with_reducible rfl
     · simp only [go_sem, *]
     · first | assumption | ((with_reducible apply c_spec_l2Copy) <;> first | assumption | rfl)
     · simp only [go_sem]; with_reducible rfl)
  | (with_reducible apply al_s hT false
     · first | exact gchk_none rfl | simp only [go_sem, *]
     · simp only [go_sem, encCell, encMsg, zeroCell, *]; first | done | with_reducible rfl)
  )
  all_goals ((simp only [go_sem, *]); first | done | rfl)
def openC (c : CellV) : Int := if c.closed then 6 else 0
theorem c_impl_openCode (c : CellV) {u : AV} (hu : u = encCell false c) : Sound P 51 [u] (.int .i64 (openC c)) := by
  subst hu
  unfold openC
  cases hC : c.closed
  all_goals (
    refine sound_body hT Try.func51 rfl ?_
    rw [Try.results51, Try.ntmps51]
    simp only [frame, List.length_cons, List.length_nil, List.replicate, List.cons_append, List.nil_append, Nat.reduceAdd, Nat.reduceSub]
    repeat' (first
    | with_reducible first | refine aw_seq ?_ | refine aw_block ?_ | refine aw_skip ?_ | refine aw_exit ?_
    | with_reducible first | refine aw_ret ?_ | refine thenA_n ?_ | refine thenA_r ?_ | refine thenA_x ?_ | refine blockA_n ?_ | refine blockA_r ?_ | refine blockA_e ?_ | refine blockA_x (by decide) ?_ | refine ends_r ?_ | refine ends_n ?_ | refine ends_rM ?_ | refine ends_nM ?_ | refine aw_reg ?_
    | with_reducible refine al_nil ?_
    | (with_reducible apply aw_cond
       · simp only [go_sem, *]; with_reducible rfl
       all_goals (intro h; try simp only [Bool.not_eq_true', Bool.not_eq_false', reduceCtorEq] at h))
    | (with_reducible apply al_s hT true
       · first | exact gchk_none rfl | simp only [go_sem, *]
       · simp only [go_sem, encCell, encMsg, *]; first | done | with_reducible rfl)
    )
    all_goals ((simp only [go_sem, *]); first | done | rfl))
theorem c_spec_Look (c : CellV) {u : AV} (hu : u = encCell false c) (hm : okMsg c.val) (h1 : c.line.length ≤ 4194304) (h2 : c.grants.length ≤ 4194304) (hB : cellB c = true) : Sound P 45 [u] (.tup [encMsg false c.val, .int .i64 c.version, .int .i64 (openC c)]) := by
  subst hu
  have hb : Sound P 42 [.agg [encMsg false c.val, .int .i64 c.version, .bool c.closed, .lst false 1 (c.line.map encInt), .lst false 1 (c.grants.map encInt)]] (.bool true) := hB ▸ c_spec_CellOk c rfl hm h1 h2
  unfold openC
  cases hC : c.closed
  all_goals (
    rw [hC] at hb
    refine sound_body hT Try.func45 rfl ?_
    rw [Try.results45, Try.ntmps45]
    simp only [frame, List.length_cons, List.length_nil, List.replicate, List.cons_append, List.nil_append, Nat.reduceAdd, Nat.reduceSub]
    repeat' (first
    | with_reducible first | refine aw_seq ?_ | refine aw_block ?_ | refine aw_skip ?_ | refine aw_exit ?_
    | with_reducible first | refine aw_ret ?_ | refine thenA_n ?_ | refine thenA_r ?_ | refine thenA_x ?_ | refine blockA_n ?_ | refine blockA_r ?_ | refine blockA_e ?_ | refine blockA_x (by decide) ?_ | refine ends_r ?_ | refine ends_n ?_ | refine ends_rM ?_ | refine ends_nM ?_ | refine aw_reg ?_
    | (with_reducible apply aw_anyW (id := 4) [[], [0], [], [2], [0, 1], [0, 1, 2, 3, 4], [0, 1, 2, 3, 4, 5]] [[(13, _)], [(14, _)], [(15, _)], [(16, _)], [(2, _)], [(3, _)], [(4, _)]] hT
       · decide +kernel
       · skip
         with_reducible refine steps_cons2 [1, 4, 5, 6] (by decide +kernel) (fun D hk hd hf => ?_) ?_
         · try simp only [go_sem, allT, Option.getD_some] at hd
           try simp only [go_sem, allF] at hf
           simp only [fillW, putIfs, putIf, cond_true, also, Nat.reduceBEq, cond_false, Nat.reduceAdd, hd, hk, hf]
           exact as_q hT (gchk_none rfl) (by simp only [go_sem, encCell, encMsg, *]; with_reducible rfl) (by simp only [go_sem]; with_reducible rfl)
         with_reducible refine steps_cons2 [4, 5, 6] (by decide +kernel) (fun D hk hd hf => ?_) ?_
         · try simp only [go_sem, allT, Option.getD_some] at hd
           try simp only [go_sem, allF] at hf
           simp only [fillW, putIfs, putIf, cond_true, also, Nat.reduceBEq, cond_false, Nat.reduceAdd, hd, hk, hf]
           exact as_q hT (gchk_none rfl) (by simp only [go_sem, encCell, encMsg, *]; with_reducible rfl) (by simp only [go_sem]; with_reducible rfl)
         with_reducible refine steps_cons2 [3, 5, 6] (by decide +kernel) (fun D hk hd hf => ?_) ?_
         · try simp only [go_sem, allT, Option.getD_some] at hd
           try simp only [go_sem, allF] at hf
           simp only [fillW, putIfs, putIf, cond_true, also, Nat.reduceBEq, cond_false, Nat.reduceAdd, hd, hk, hf]
           exact as_q hT (gchk_none rfl) (by simp only [go_sem, encCell, encMsg, *]; with_reducible rfl) (by simp only [go_sem]; with_reducible rfl)
         with_reducible refine steps_cons2 [5, 6] (by decide +kernel) (fun D hk hd hf => ?_) ?_
         · try simp only [go_sem, allT, Option.getD_some] at hd
           try simp only [go_sem, allF] at hf
           simp only [fillW, putIfs, putIf, cond_true, also, Nat.reduceBEq, cond_false, Nat.reduceAdd, hd, hk, hf]
           exact as_q hT (gchk_none rfl) (by simp only [go_sem, encCell, encMsg, *]; with_reducible rfl) (by simp only [go_sem]; with_reducible rfl)
         with_reducible refine steps_cons2 [5, 6] (by decide +kernel) (fun D hk hd hf => ?_) ?_
         · try simp only [go_sem, allT, Option.getD_some] at hd
           try simp only [go_sem, allF] at hf
           simp only [fillW, putIfs, putIf, cond_true, also, Nat.reduceBEq, cond_false, Nat.reduceAdd, hd, hk, hf]
           exact as_s hT true (gchk_none rfl) (by simp only [go_sem, encCell, encMsg, *]; with_reducible rfl)
         with_reducible refine steps_cons2 [6] (by decide +kernel) (fun D hk hd hf => ?_) ?_
         · try simp only [go_sem, allT, Option.getD_some] at hd
           try simp only [go_sem, allF] at hf
           simp only [fillW, putIfs, putIf, cond_true, also, Nat.reduceBEq, cond_false, Nat.reduceAdd, hd, hk, hf]
           exact as_s hT true (gchk_none rfl) (by simp only [go_sem, encCell, encMsg, *]; with_reducible rfl)
         with_reducible refine steps_cons2 [] (by decide +kernel) (fun D hk hd hf => ?_) ?_
         · try simp only [go_sem, allT, Option.getD_some] at hd
           try simp only [go_sem, allF] at hf
           simp only [fillW, putIfs, putIf, cond_true, also, Nat.reduceBEq, cond_false, Nat.reduceAdd, hd, hk, hf]
           exact as_s hT true (gchk_none rfl) (by simp only [go_sem, encCell, encMsg, *]; with_reducible rfl)
         exact steps_nil
       · rfl
       simp only [fillW, putIfs, putIf, cond_true])
    | (with_reducible apply aw_anyW (id := 5) [[], [0], [], [2], [0, 1], [0, 1, 2, 3, 4], [0, 1, 2, 3, 4, 5]] [[(17, _)], [(18, _)], [(19, _)], [(20, _)], [(2, _)], [(3, _)], [(4, _)]] hT
       · decide +kernel
       · skip
         with_reducible refine steps_cons2 [1, 4, 5, 6] (by decide +kernel) (fun D hk hd hf => ?_) ?_
         · try simp only [go_sem, allT, Option.getD_some] at hd
           try simp only [go_sem, allF] at hf
           simp only [fillW, putIfs, putIf, cond_true, also, Nat.reduceBEq, cond_false, Nat.reduceAdd, hd, hk, hf]
           exact as_q hT (gchk_none rfl) (by simp only [go_sem, encCell, encMsg, *]; with_reducible rfl) (by simp only [go_sem]; with_reducible rfl)
         with_reducible refine steps_cons2 [4, 5, 6] (by decide +kernel) (fun D hk hd hf => ?_) ?_
         · try simp only [go_sem, allT, Option.getD_some] at hd
           try simp only [go_sem, allF] at hf
           simp only [fillW, putIfs, putIf, cond_true, also, Nat.reduceBEq, cond_false, Nat.reduceAdd, hd, hk, hf]
           exact as_q hT (gchk_none rfl) (by simp only [go_sem, encCell, encMsg, *]; with_reducible rfl) (by simp only [go_sem]; with_reducible rfl)
         with_reducible refine steps_cons2 [3, 5, 6] (by decide +kernel) (fun D hk hd hf => ?_) ?_
         · try simp only [go_sem, allT, Option.getD_some] at hd
           try simp only [go_sem, allF] at hf
           simp only [fillW, putIfs, putIf, cond_true, also, Nat.reduceBEq, cond_false, Nat.reduceAdd, hd, hk, hf]
           exact as_q hT (gchk_none rfl) (by simp only [go_sem, encCell, encMsg, *]; with_reducible rfl) (by simp only [go_sem]; with_reducible rfl)
         with_reducible refine steps_cons2 [5, 6] (by decide +kernel) (fun D hk hd hf => ?_) ?_
         · try simp only [go_sem, allT, Option.getD_some] at hd
           try simp only [go_sem, allF] at hf
           simp only [fillW, putIfs, putIf, cond_true, also, Nat.reduceBEq, cond_false, Nat.reduceAdd, hd, hk, hf]
           exact as_q hT (gchk_none rfl) (by simp only [go_sem, encCell, encMsg, *]; with_reducible rfl) (by simp only [go_sem]; with_reducible rfl)
         with_reducible refine steps_cons2 [5, 6] (by decide +kernel) (fun D hk hd hf => ?_) ?_
         · try simp only [go_sem, allT, Option.getD_some] at hd
           try simp only [go_sem, allF] at hf
           simp only [fillW, putIfs, putIf, cond_true, also, Nat.reduceBEq, cond_false, Nat.reduceAdd, hd, hk, hf]
           exact as_s hT true (gchk_none rfl) (by simp only [go_sem, encCell, encMsg, *]; with_reducible rfl)
         with_reducible refine steps_cons2 [6] (by decide +kernel) (fun D hk hd hf => ?_) ?_
         · try simp only [go_sem, allT, Option.getD_some] at hd
           try simp only [go_sem, allF] at hf
           simp only [fillW, putIfs, putIf, cond_true, also, Nat.reduceBEq, cond_false, Nat.reduceAdd, hd, hk, hf]
           exact as_s hT true (gchk_none rfl) (by simp only [go_sem, encCell, encMsg, *]; with_reducible rfl)
         with_reducible refine steps_cons2 [] (by decide +kernel) (fun D hk hd hf => ?_) ?_
         · try simp only [go_sem, allT, Option.getD_some] at hd
           try simp only [go_sem, allF] at hf
           simp only [fillW, putIfs, putIf, cond_true, also, Nat.reduceBEq, cond_false, Nat.reduceAdd, hd, hk, hf]
           exact as_s hT true (gchk_none rfl) (by simp only [go_sem, encCell, encMsg, *]; with_reducible rfl)
         exact steps_nil
       · rfl
       simp only [fillW, putIfs, putIf, cond_true])
    | with_reducible refine al_nil ?_
    | (with_reducible apply aw_cond
       · simp only [go_sem, *]; with_reducible rfl
       all_goals (intro h; try simp only [Bool.not_eq_true', Bool.not_eq_false', reduceCtorEq] at h))
    | (with_reducible apply al_call (f := 42)
       · first | exact gchk_none rfl | simp only [go_sem, *]
       · rfl
       · exact Try.call42
       · simp only [go_sem, encCell, encMsg, *]; with_reducible rfl
       · simp only [go_sem, *]
       · first | assumption | ((with_reducible apply c_spec_CellOk) <;> first | assumption | rfl)
       · simp only [go_sem]; with_reducible rfl)
    | (with_reducible apply al_s hT true
       · first | exact gchk_none rfl | simp only [go_sem, *]
       · simp only [go_sem, encCell, encMsg, *]; first | done | with_reducible rfl)
    )
    all_goals ((simp only [go_sem, *]); first | done | rfl))
def seenB (c : CellV) (who : Int) : Bool := cellB c && !(c.line.any (· == who)) && c.grants.any (· == who)
def seenR (c : CellV) (who : Int) : CellV := if seenB c who then { c with grants := c.grants.filter fun x => !(x == who) } else c
def noMsgV : MsgV := ⟨0, 0, { data := #[] }⟩
def seenM (c : CellV) (who : Int) : MsgV := if seenB c who then c.val else noMsgV
def seenN (c : CellV) (who : Int) : Int := if seenB c who then c.version else 0
def seenC (c : CellV) (who : Int) : Int := if cellB c then (if c.line.any (· == who) then 4 else if c.grants.any (· == who) then openC c else 3) else 1
theorem seen_w (c : CellV) (who : Int) : wCell (seenR c who) ≤ wCell c := by
  unfold seenR
  split
  · simp only [wCell, wIntS, sumL_zero wInt fun _ => rfl, Nat.add_zero]
    have := List.length_filter_le (fun x => !(x == who)) c.grants
    omega
  · exact Nat.le_refl _
theorem seen_m (c : CellV) (who : Int) : wMsg (seenM c who) ≤ wCell c := by
  unfold seenM
  split
  · simp only [wCell]; omega
  · exact Nat.zero_le _
theorem c_impl_Seen (c : CellV) (who : Int) {u : AV} (hu : u = encCell false c) (hm : okMsg c.val) (h1 : c.line.length ≤ 4194304) (h2 : c.grants.length ≤ 4194304) : Sound P 17 [u, .int .i64 who] (.tup [encCell true (seenR c who), encMsg false (seenM c who), .int .i64 (seenN c who), .int .i64 (seenC c who)]) := by
  subst hu
  have l1 : c.line.length < 4611686018427387904 := by omega
  have l2 : c.grants.length < 4611686018427387904 := by omega
  obtain ⟨R, hR⟩ : ∃ R, seenR c who = R := ⟨_, rfl⟩
  obtain ⟨M, hM⟩ : ∃ M, seenM c who = M := ⟨_, rfl⟩
  obtain ⟨n, hn⟩ : ∃ n, seenN c who = n := ⟨_, rfl⟩
  obtain ⟨k, hk⟩ : ∃ k, seenC c who = k := ⟨_, rfl⟩
  rw [hR, hM, hn, hk]
  unfold seenR seenB at hR
  unfold seenM seenB at hM
  unfold seenN seenB at hn
  unfold seenC at hk
  cases hB : cellB c <;> cases hL : c.line.any (· == who) <;> cases hG : c.grants.any (· == who)
  all_goals (
    simp only [hB, hL, hG, Bool.and_self, Bool.and_false, Bool.false_and, Bool.true_and, Bool.and_true, Bool.not_false, Bool.not_true, if_true, if_false, Bool.false_eq_true] at hR hM hn hk
    subst hR hM hn hk
    refine sound_body hT Try.func17 rfl ?_
    rw [Try.results17, Try.ntmps17]
    simp only [frame, List.length_cons, List.length_nil, List.replicate, List.cons_append, List.nil_append, Nat.reduceAdd, Nat.reduceSub]
    repeat' (first
    | with_reducible first | refine aw_seq ?_ | refine aw_block ?_ | refine aw_skip ?_ | refine aw_exit ?_
    | with_reducible first | refine aw_ret ?_ | refine thenA_n ?_ | refine thenA_r ?_ | refine thenA_x ?_ | refine blockA_n ?_ | refine blockA_r ?_ | refine blockA_e ?_ | refine blockA_x (by decide) ?_ | refine ends_r ?_ | refine ends_n ?_ | refine ends_rM ?_ | refine ends_nM ?_ | refine aw_reg ?_
    | (with_reducible apply aw_anyW (id := 9) [[], [], [1], [], [3], [], [5], [0, 5, 6], [0, 1, 2, 5, 6, 7], [0, 1, 2, 3, 4, 5, 6, 7, 8], [0, 1, 2, 3, 4, 5, 6, 7, 8, 9]] [[(37, _)], [(38, _)], [(39, _)], [(40, _)], [(41, _)], [(42, _)], [(43, _)], [(4, _), (8, _), (15, _), (22, _), (30, _), (36, _), (37, _)], [(5, _)], [(6, _), (2, _), (9, _), (12, _), (18, _), (19, _), (25, _), (26, _), (32, _), (33, _), (38, _), (40, _), (42, _)], [(7, _), (43, _)]] hT
       · decide +kernel
       · skip
         with_reducible refine steps_cons2 [7, 8, 9, 10] (by decide +kernel) (fun D hk hd hf => ?_) ?_
         · try simp only [go_sem, allT, Option.getD_some] at hd
           try simp only [go_sem, allF] at hf
           simp only [fillW, putIfs, putIf, cond_true, also, Nat.reduceBEq, cond_false, Nat.reduceAdd, hd, hk, hf]
           exact as_q hT (gchk_none rfl) (by simp only [go_sem, encCell, encMsg, zeroCell, *]; with_reducible rfl) (by simp only [go_sem]; with_reducible rfl)
         with_reducible refine steps_cons2 [2, 8, 9, 10] (by decide +kernel) (fun D hk hd hf => ?_) ?_
         · try simp only [go_sem, allT, Option.getD_some] at hd
           try simp only [go_sem, allF] at hf
           simp only [fillW, putIfs, putIf, cond_true, also, Nat.reduceBEq, cond_false, Nat.reduceAdd, hd, hk, hf]
           exact as_q hT (gchk_none rfl) (by simp only [go_sem, encCell, encMsg, zeroCell, *]; with_reducible rfl) (by simp only [go_sem]; with_reducible rfl)
         with_reducible refine steps_cons2 [8, 9, 10] (by decide +kernel) (fun D hk hd hf => ?_) ?_
         · try simp only [go_sem, allT, Option.getD_some] at hd
           try simp only [go_sem, allF] at hf
           simp only [fillW, putIfs, putIf, cond_true, also, Nat.reduceBEq, cond_false, Nat.reduceAdd, hd, hk, hf]
           exact as_q hT (gchk_none rfl) (by simp only [go_sem, encCell, encMsg, zeroCell, *]; with_reducible rfl) (by simp only [go_sem]; with_reducible rfl)
         with_reducible refine steps_cons2 [4, 9, 10] (by decide +kernel) (fun D hk hd hf => ?_) ?_
         · try simp only [go_sem, allT, Option.getD_some] at hd
           try simp only [go_sem, allF] at hf
           simp only [fillW, putIfs, putIf, cond_true, also, Nat.reduceBEq, cond_false, Nat.reduceAdd, hd, hk, hf]
           exact as_q hT (gchk_none rfl) (by simp only [go_sem, encCell, encMsg, zeroCell, *]; with_reducible rfl) (by simp only [go_sem]; with_reducible rfl)
         with_reducible refine steps_cons2 [9, 10] (by decide +kernel) (fun D hk hd hf => ?_) ?_
         · try simp only [go_sem, allT, Option.getD_some] at hd
           try simp only [go_sem, allF] at hf
           simp only [fillW, putIfs, putIf, cond_true, also, Nat.reduceBEq, cond_false, Nat.reduceAdd, hd, hk, hf]
           exact as_q hT (gchk_none rfl) (by simp only [go_sem, encCell, encMsg, zeroCell, *]; with_reducible rfl) (by simp only [go_sem]; with_reducible rfl)
         with_reducible refine steps_cons2 [6, 7, 8, 9, 10] (by decide +kernel) (fun D hk hd hf => ?_) ?_
         · try simp only [go_sem, allT, Option.getD_some] at hd
           try simp only [go_sem, allF] at hf
           simp only [fillW, putIfs, putIf, cond_true, also, Nat.reduceBEq, cond_false, Nat.reduceAdd, hd, hk, hf]
           exact as_q hT (gchk_none rfl) (by simp only [go_sem, encCell, encMsg, zeroCell, *]; with_reducible rfl) (by simp only [go_sem]; with_reducible rfl)
         with_reducible refine steps_cons2 [7, 8, 9, 10] (by decide +kernel) (fun D hk hd hf => ?_) ?_
         · try simp only [go_sem, allT, Option.getD_some] at hd
           try simp only [go_sem, allF] at hf
           simp only [fillW, putIfs, putIf, cond_true, also, Nat.reduceBEq, cond_false, Nat.reduceAdd, hd, hk, hf]
           first | exact as_call (f := 51) (gchk_none rfl) rfl Try.call51 (by simp only [go_sem, encCell, encMsg, zeroCell, *]; with_reducible rfl) (by simp only [go_sem, *]; first | done | fail) (by first | assumption | ((with_reducible apply c_impl_openCode) <;> first | assumption | rfl)) (by simp only [go_sem]; with_reducible rfl) | exact as_snap (f := 51) (gchk_none rfl) rfl Try.call51 (by simp only [go_sem, encCell, encMsg, zeroCell, *]; with_reducible rfl) (by simp only [go_sem, encCell, encMsg, zeroCell, *]; with_reducible rfl) (by first | assumption | ((with_reducible apply c_impl_openCode) <;> first | assumption | rfl)) (by simp only [go_sem, *]; first | done | fail) (by simp only [go_sem]; with_reducible rfl)
         with_reducible refine steps_cons2 [8, 9, 10] (by decide +kernel) (fun D hk hd hf => ?_) ?_
         · try simp only [go_sem, allT, Option.getD_some] at hd
           try simp only [go_sem, allF] at hf
           simp only [fillW, putIfs, putIf, cond_true, also, Nat.reduceBEq, cond_false, Nat.reduceAdd, hd, hk, hf]
           exact as_s hT false (gchk_none rfl) (by simp only [go_sem, encCell, encMsg, zeroCell, *]; with_reducible rfl)
         with_reducible refine steps_cons2 [9, 10] (by decide +kernel) (fun D hk hd hf => ?_) ?_
         · try simp only [go_sem, allT, Option.getD_some] at hd
           try simp only [go_sem, allF] at hf
           simp only [fillW, putIfs, putIf, cond_true, also, Nat.reduceBEq, cond_false, Nat.reduceAdd, hd, hk, hf]
           exact as_s hT false (gchk_none rfl) (by simp only [go_sem, encCell, encMsg, zeroCell, *]; with_reducible rfl)
         with_reducible refine steps_cons2 [10] (by decide +kernel) (fun D hk hd hf => ?_) ?_
         · try simp only [go_sem, allT, Option.getD_some] at hd
           try simp only [go_sem, allF] at hf
           simp only [fillW, putIfs, putIf, cond_true, also, Nat.reduceBEq, cond_false, Nat.reduceAdd, hd, hk, hf]
           exact as_s hT false (gchk_none rfl) (by simp only [go_sem, encCell, encMsg, zeroCell, *]; with_reducible rfl)
         with_reducible refine steps_cons2 [] (by decide +kernel) (fun D hk hd hf => ?_) ?_
         · try simp only [go_sem, allT, Option.getD_some] at hd
           try simp only [go_sem, allF] at hf
           simp only [fillW, putIfs, putIf, cond_true, also, Nat.reduceBEq, cond_false, Nat.reduceAdd, hd, hk, hf]
           exact as_s hT false (gchk_none rfl) (by simp only [go_sem, encCell, encMsg, zeroCell, *]; with_reducible rfl)
         exact steps_nil
       · rfl
       simp only [fillW, putIfs, putIf, cond_true])
    | with_reducible refine al_nil ?_
    | (with_reducible apply aw_cond
       · simp only [go_sem, *]; with_reducible rfl
       all_goals (intro h; try simp only [Bool.not_eq_true', Bool.not_eq_false', reduceCtorEq] at h))
    | (with_reducible apply al_call (f := 47)
       · first | exact gchk_none rfl | simp only [go_sem, *]
       · rfl
       · exact Try.call47
       · simp only [go_sem, encCell, encMsg, zeroCell, *]; with_reducible rfl
       · simp only [go_sem, *]
       · first | assumption | ((with_reducible apply c_impl_copyCell) <;> first | assumption | rfl)
       · simp only [go_sem]; with_reducible rfl)
    | (with_reducible apply al_call (f := 48)
       · first | exact gchk_none rfl | simp only [go_sem, *]
       · rfl
       · exact Try.call48
       · simp only [go_sem, encCell, encMsg, zeroCell, *]; with_reducible rfl
       · simp only [go_sem, *]
       · first | assumption | ((with_reducible apply c_impl_CellOk) <;> first | assumption | rfl)
       · simp only [go_sem]; with_reducible rfl)
    | (with_reducible apply al_call (f := 49)
       · first | exact gchk_none rfl | simp only [go_sem, *]
       · rfl
       · exact Try.call49
       · simp only [go_sem, encCell, encMsg, zeroCell, *]; with_reducible rfl
       · simp only [go_sem, *]
       · first | assumption | ((with_reducible apply c_slices_Contains_int_int) <;> first | assumption | rfl)
       · simp only [go_sem]; with_reducible rfl)
    | (with_reducible apply al_call (f := 50)
       · first | exact gchk_none rfl | simp only [go_sem, *]
       · rfl
       · exact Try.call50
       · simp only [go_sem, encCell, encMsg, zeroCell, *]; with_reducible rfl
       · simp only [go_sem, *]
       · first | assumption | ((with_reducible apply c_impl_without) <;> first | assumption | rfl)
       · simp only [go_sem]; with_reducible rfl)
    | (with_reducible apply al_build hT
       · exact gchk_none rfl
       · rfl
       · simp only [go_sem]; first | done | with_reducible rfl
       · simp only [go_sem]; first | done | with_reducible rfl
       · simp only [go_sem, bldOk, List.sum_cons, List.sum_nil]; first | done | decide
       · simp only [go_sem, encCell, encMsg, zeroCell, *]; with_reducible rfl
       · simp only [go_sem, encCell, encMsg, zeroCell, *]; with_reducible rfl
       · simp only [go_sem]
       · simp only [go_sem]; with_reducible rfl)
    | (with_reducible apply al_s hT false
       · first | exact gchk_none rfl | simp only [go_sem, *]
       · simp only [go_sem, encCell, encMsg, zeroCell, *]; first | done | with_reducible rfl)
    )
    all_goals ((simp only [go_sem, *]); first | done | rfl))
theorem c_spec_Seen (c : CellV) (who : Int) {u : AV} (hu : u = encCell false c) (hm : okMsg c.val) (h1 : c.line.length ≤ 4194304) (h2 : c.grants.length ≤ 4194304) : Sound P 15 [u, .int .i64 who] (.tup [encCell true (seenR c who), encMsg false (seenM c who), .int .i64 (seenN c who), .int .i64 (seenC c who)]) := by
  subst hu
  have l1 : c.line.length < 4611686018427387904 := by omega
  have l2 : c.grants.length < 4611686018427387904 := by omega
  obtain ⟨R, hR⟩ : ∃ R, seenR c who = R := ⟨_, rfl⟩
  obtain ⟨M, hM⟩ : ∃ M, seenM c who = M := ⟨_, rfl⟩
  obtain ⟨n, hn⟩ : ∃ n, seenN c who = n := ⟨_, rfl⟩
  obtain ⟨k, hk⟩ : ∃ k, seenC c who = k := ⟨_, rfl⟩
  rw [hR, hM, hn, hk]
  unfold seenR seenB at hR
  unfold seenM seenB at hM
  unfold seenN seenB at hn
  unfold seenC at hk
  have hnd : cellB c = true → less1 c.grants who = c.grants.filter fun x => !(x == who) := fun h => less1_nodup (cell_nodup h)
  obtain ⟨L, hL1⟩ : ∃ L, less1 c.grants who = L := ⟨_, rfl⟩
  rw [hL1] at hnd
  cases hB : cellB c <;> cases hL : c.line.any (· == who) <;> cases hG : c.grants.any (· == who)
  all_goals (
    simp only [hB, hL, hG, Bool.and_self, Bool.and_false, Bool.false_and, Bool.true_and, Bool.and_true, Bool.not_false, Bool.not_true, if_true, if_false, Bool.false_eq_true, true_implies, false_implies] at hR hM hn hk hnd
    try rw [← hnd] at hR
    subst hR hM hn hk
    clear hnd
    refine sound_body hT Try.func15 rfl ?_
    rw [Try.results15, Try.ntmps15]
    simp only [frame, List.length_cons, List.length_nil, List.replicate, List.cons_append, List.nil_append, Nat.reduceAdd, Nat.reduceSub]
    repeat' (first
    | with_reducible first | refine aw_seq ?_ | refine aw_block ?_ | refine aw_skip ?_ | refine aw_exit ?_
    | with_reducible first | refine aw_ret ?_ | refine thenA_n ?_ | refine thenA_r ?_ | refine thenA_x ?_ | refine blockA_n ?_ | refine blockA_r ?_ | refine blockA_e ?_ | refine blockA_x (by decide) ?_ | refine ends_r ?_ | refine ends_n ?_ | refine ends_rM ?_ | refine ends_nM ?_ | refine aw_reg ?_
    | (with_reducible apply aw_anyW (id := 10) [[], [], [], [], [0], [0, 1, 4], [0, 1, 2, 4, 5], [0, 1, 2, 3, 4, 5, 6]] [[(46, _)], [(47, _)], [(48, _)], [(49, _)], [(4, _), (8, _), (18, _), (25, _), (33, _), (39, _), (46, _)], [(5, _)], [(6, _), (10, _), (48, _)], [(7, _), (11, _), (49, _)]] hT
       · decide +kernel
       · skip
         with_reducible refine steps_cons2 [4, 5, 6, 7] (by decide +kernel) (fun D hk hd hf => ?_) ?_
         · try simp only [go_sem, allT, Option.getD_some] at hd
           try simp only [go_sem, allF] at hf
           simp only [fillW, putIfs, putIf, cond_true, also, Nat.reduceBEq, cond_false, Nat.reduceAdd, hd, hk, hf]
           exact as_q hT (gchk_none rfl) (by simp only [go_sem, encCell, encMsg, zeroCell, *]; with_reducible rfl) (by simp only [go_sem]; with_reducible rfl)
         with_reducible refine steps_cons2 [5, 6, 7] (by decide +kernel) (fun D hk hd hf => ?_) ?_
         · try simp only [go_sem, allT, Option.getD_some] at hd
           try simp only [go_sem, allF] at hf
           simp only [fillW, putIfs, putIf, cond_true, also, Nat.reduceBEq, cond_false, Nat.reduceAdd, hd, hk, hf]
           exact as_q hT (gchk_none rfl) (by simp only [go_sem, encCell, encMsg, zeroCell, *]; with_reducible rfl) (by simp only [go_sem]; with_reducible rfl)
         with_reducible refine steps_cons2 [6, 7] (by decide +kernel) (fun D hk hd hf => ?_) ?_
         · try simp only [go_sem, allT, Option.getD_some] at hd
           try simp only [go_sem, allF] at hf
           simp only [fillW, putIfs, putIf, cond_true, also, Nat.reduceBEq, cond_false, Nat.reduceAdd, hd, hk, hf]
           exact as_q hT (gchk_none rfl) (by simp only [go_sem, encCell, encMsg, zeroCell, *]; with_reducible rfl) (by simp only [go_sem]; with_reducible rfl)
         with_reducible refine steps_cons2 [7] (by decide +kernel) (fun D hk hd hf => ?_) ?_
         · try simp only [go_sem, allT, Option.getD_some] at hd
           try simp only [go_sem, allF] at hf
           simp only [fillW, putIfs, putIf, cond_true, also, Nat.reduceBEq, cond_false, Nat.reduceAdd, hd, hk, hf]
           exact as_q hT (gchk_none rfl) (by simp only [go_sem, encCell, encMsg, zeroCell, *]; with_reducible rfl) (by simp only [go_sem]; with_reducible rfl)
         with_reducible refine steps_cons2 [5, 6, 7] (by decide +kernel) (fun D hk hd hf => ?_) ?_
         · try simp only [go_sem, allT, Option.getD_some] at hd
           try simp only [go_sem, allF] at hf
           simp only [fillW, putIfs, putIf, cond_true, also, Nat.reduceBEq, cond_false, Nat.reduceAdd, hd, hk, hf]
           exact as_s hT false (gchk_none rfl) (by simp only [go_sem, encCell, encMsg, zeroCell, *]; with_reducible rfl)
         with_reducible refine steps_cons2 [6, 7] (by decide +kernel) (fun D hk hd hf => ?_) ?_
         · try simp only [go_sem, allT, Option.getD_some] at hd
           try simp only [go_sem, allF] at hf
           simp only [fillW, putIfs, putIf, cond_true, also, Nat.reduceBEq, cond_false, Nat.reduceAdd, hd, hk, hf]
           exact as_s hT false (gchk_none rfl) (by simp only [go_sem, encCell, encMsg, zeroCell, *]; with_reducible rfl)
         with_reducible refine steps_cons2 [7] (by decide +kernel) (fun D hk hd hf => ?_) ?_
         · try simp only [go_sem, allT, Option.getD_some] at hd
           try simp only [go_sem, allF] at hf
           simp only [fillW, putIfs, putIf, cond_true, also, Nat.reduceBEq, cond_false, Nat.reduceAdd, hd, hk, hf]
           exact as_s hT false (gchk_none rfl) (by simp only [go_sem, encCell, encMsg, zeroCell, *]; with_reducible rfl)
         with_reducible refine steps_cons2 [] (by decide +kernel) (fun D hk hd hf => ?_) ?_
         · try simp only [go_sem, allT, Option.getD_some] at hd
           try simp only [go_sem, allF] at hf
           simp only [fillW, putIfs, putIf, cond_true, also, Nat.reduceBEq, cond_false, Nat.reduceAdd, hd, hk, hf]
           exact as_s hT false (gchk_none rfl) (by simp only [go_sem, encCell, encMsg, zeroCell, *]; with_reducible rfl)
         exact steps_nil
       · rfl
       simp only [fillW, putIfs, putIf, cond_true])
    | with_reducible refine al_nil ?_
    | (with_reducible apply aw_cond
       · simp only [go_sem, *]; with_reducible rfl
       all_goals (intro h; try simp only [Bool.not_eq_true', Bool.not_eq_false', reduceCtorEq] at h))
    | (with_reducible apply al_call (f := 41)
       · first | exact gchk_none rfl | simp only [go_sem, *]
       · rfl
       · exact Try.call41
       · simp only [go_sem, encCell, encMsg, zeroCell, *]; with_reducible rfl
       · simp only [go_sem, *]
       · first | assumption | ((with_reducible apply c_spec_l7Copy) <;> first | assumption | rfl)
       · simp only [go_sem]; with_reducible rfl)
    | (with_reducible apply al_call (f := 42)
       · first | exact gchk_none rfl | simp only [go_sem, *]
       · rfl
       · exact Try.call42
       · simp only [go_sem, encCell, encMsg, zeroCell, *]; with_reducible rfl
       · simp only [go_sem, *]
       · first | assumption | ((with_reducible apply c_spec_CellOk) <;> first | assumption | rfl)
       · simp only [go_sem]; with_reducible rfl)
    | (with_reducible apply al_call (f := 43)
       · first | exact gchk_none rfl | simp only [go_sem, *]
       · rfl
       · exact Try.call43
       · simp only [go_sem, encCell, encMsg, zeroCell, *]; with_reducible rfl
       · simp only [go_sem, *]
       · first | assumption | ((with_reducible apply c_spec_l2Has) <;> first | assumption | rfl)
       · simp only [go_sem]; with_reducible rfl)
    | (with_reducible apply al_call (f := 44)
       · first | exact gchk_none rfl | simp only [go_sem, *]
       · rfl
       · exact Try.call44
       · simp only [go_sem, encCell, encMsg, zeroCell, *]; with_reducible rfl
       · simp only [go_sem, *]
       · first | assumption | ((with_reducible apply c_spec_l2Less) <;> first | assumption | rfl)
       · simp only [go_sem]; with_reducible rfl)
    | (with_reducible apply al_call (f := 45)
       · first | exact gchk_none rfl | simp only [go_sem, *]
       · rfl
       · exact Try.call45
       · simp only [go_sem, encCell, encMsg, zeroCell, *]; with_reducible rfl
       · simp only [go_sem, *]
       · first | assumption | ((with_reducible apply c_spec_Look) <;> first | assumption | rfl)
       · simp only [go_sem]; with_reducible rfl)
    | (with_reducible apply al_build hT
       · exact gchk_none rfl
       · rfl
       · simp only [go_sem]; first | done | with_reducible rfl
       · simp only [go_sem]; first | done | with_reducible rfl
       · simp only [go_sem, bldOk, List.sum_cons, List.sum_nil]; first | done | decide
       · simp only [go_sem, encCell, encMsg, zeroCell, *]; with_reducible rfl
       · simp only [go_sem, encCell, encMsg, zeroCell, *]; with_reducible rfl
       · simp only [go_sem]
       · simp only [go_sem]; with_reducible rfl)
    | (with_reducible apply al_movetup
       · exact gchk_none rfl
       · rfl
       · simp only [go_sem, *]; with_reducible rfl
       · simp only [go_sem]; with_reducible rfl)
    | (with_reducible apply al_s hT false
       · first | exact gchk_none rfl | simp only [go_sem, *]
       · simp only [go_sem, encCell, encMsg, zeroCell, *]; first | done | with_reducible rfl)
    )
    all_goals ((simp only [go_sem, *]); first | done | rfl))
theorem cell_len {c : CellV} (h : wCell c ≤ 1048576) : c.line.length ≤ 4194304 ∧ c.grants.length ≤ 4194304 := by
  simp only [wCell, wIntS] at h
  omega
theorem c_laws_FnExactSeen (c : CellV) (who : Int) {u : AV} (hu : u = encCell false c) (hc : okCell c) : Sound P 4 [u, .int .i64 who] (.bool true) := by
  subst hu
  have h0 : decide ((1048576 : Int) < 0) = false := by decide
  have h1 : (1048576 : Int) ≤ 1048576 := by omega
  have hm := hc.1
  rcases szW_cases (wCell c) 1048576 with ⟨hw, hz⟩ | ⟨hw, hz⟩
  · have hwn : wCell c ≤ 1048576 := by omega
    have hw4 : wCell c ≤ 4194304 := by omega
    obtain ⟨l1, l2⟩ := cell_len hwn
    have hg : decide ((1048576 : Int) - (wCell c : Int) < 0) = false := decide_eq_false (by omega)
    have hqw := seen_w c who
    have hmw := seen_m c who
    obtain ⟨q, hq⟩ : ∃ q, seenR c who = q := ⟨_, rfl⟩
    obtain ⟨M, hM⟩ : ∃ M, seenM c who = M := ⟨_, rfl⟩
    obtain ⟨n, hn⟩ : ∃ n, seenN c who = n := ⟨_, rfl⟩
    obtain ⟨k, hk⟩ : ∃ k, seenC c who = k := ⟨_, rfl⟩
    rw [hq] at hqw
    rw [hM] at hmw
    have hq4 : wCell q ≤ 4194304 := by omega
    have hM4 : wMsg M ≤ 4194304 := by omega
    have t1 := mt10Cell c
    have t2 := mt10Cell q
    have hk1 : 1 + ((mtCellW c : Nat) : Int) ≤ 1099511627776 := by omega
    have hb1 : decide (1 + ((mtCellW c : Nat) : Int) < 0) = false := decide_eq_false (by omega)
    have hk2 : 1 + ((mtCellW q : Nat) : Int) ≤ 1099511627776 := by omega
    have hb2 : decide (1 + ((mtCellW q : Nat) : Int) < 0) = false := decide_eq_false (by omega)
    have hp : (0 : Int) ≤ 1 := by omega
    clear hqw hmw t1 t2 hwn
    refine sound_body hT Try.func4 rfl ?_
    rw [Try.results4, Try.ntmps4]
    simp only [frame, List.length_cons, List.length_nil, List.replicate, List.cons_append, List.nil_append, Nat.reduceAdd, Nat.reduceSub]
    repeat' (first
    | with_reducible first | refine aw_seq ?_ | refine aw_block ?_ | refine aw_skip ?_ | refine aw_exit ?_
    | with_reducible first | refine aw_ret ?_ | refine thenA_n ?_ | refine thenA_r ?_ | refine thenA_x ?_ | refine blockA_n ?_ | refine blockA_r ?_ | refine blockA_e ?_ | refine blockA_x (by decide) ?_ | refine ends_r ?_ | refine ends_n ?_ | refine ends_rM ?_ | refine ends_nM ?_ | refine aw_reg ?_
    | (with_reducible apply aw_anyS hT (id := 10) [[], [], [1], [0, 1, 2], [0, 1, 2, 3]] [66, 67, 68, 69, 70]
       · rfl
       · decide +kernel
       · decide +kernel
       · simp only [go_sem, *])
    | with_reducible refine al_nil ?_
    | (with_reducible apply aw_cond
       · simp only [go_sem, *]; with_reducible rfl
       all_goals (intro h; try simp only [Bool.not_eq_true', Bool.not_eq_false', reduceCtorEq] at h))
    | (with_reducible apply al_call (f := 14)
       · first | exact gchk_none rfl | simp only [go_sem, *]
       · rfl
       · exact Try.call14
       · simp only [go_sem, encCell, encMsg, zeroCell, *]; with_reducible rfl
       · simp only [go_sem, *]
       · first | assumption | ((with_reducible apply c_laws_szCell) <;> first | assumption | rfl)
       · simp only [go_sem]; with_reducible rfl)
    | (with_reducible apply al_call (f := 16)
       · first | exact gchk_none rfl | simp only [go_sem, *]
       · rfl
       · exact Try.call16
       · simp only [go_sem, encCell, encMsg, zeroCell, *]; with_reducible rfl
       · simp only [go_sem, *]
       · first | assumption | ((with_reducible apply c_laws_toCell) <;> first | assumption | rfl)
       · simp only [go_sem]; with_reducible rfl)
    | (with_reducible apply al_snap (f := 15)
       · first | exact gchk_none rfl | simp only [go_sem, *]
       · rfl
       · exact Try.call15
       · simp only [go_sem, encCell, encMsg, zeroCell, *]; with_reducible rfl
       · simp only [go_sem, encCell, encMsg, zeroCell, *]; with_reducible rfl
       · first | assumption | ((with_reducible apply c_spec_Seen) <;> first | assumption | rfl)
       · simp only [go_sem, *]
       · simp only [go_sem]; with_reducible rfl)
    | (with_reducible apply al_snap (f := 17)
       · first | exact gchk_none rfl | simp only [go_sem, *]
       · rfl
       · exact Try.call17
       · simp only [go_sem, encCell, encMsg, zeroCell, *]; with_reducible rfl
       · simp only [go_sem, encCell, encMsg, zeroCell, *]; with_reducible rfl
       · first | assumption | ((with_reducible apply c_impl_Seen) <;> first | assumption | rfl)
       · simp only [go_sem, *]
       · simp only [go_sem]; with_reducible rfl)
    | (with_reducible apply al_snap (f := 18)
       · first | exact gchk_none rfl | simp only [go_sem, *]
       · rfl
       · exact Try.call18
       · simp only [go_sem, encCell, encMsg, zeroCell, *]; with_reducible rfl
       · simp only [go_sem, encCell, encMsg, zeroCell, *]; with_reducible rfl
       · first | assumption | ((with_reducible apply c_laws_eqCell) <;> first | assumption | rfl)
       · simp only [go_sem, *]
       · simp only [go_sem]; with_reducible rfl)
    | (with_reducible apply al_call (f := 19)
       · first | exact gchk_none rfl | simp only [go_sem, *]
       · rfl
       · exact Try.call19
       · simp only [go_sem, encCell, encMsg, zeroCell, *]; with_reducible rfl
       · simp only [go_sem, *]
       · first | assumption | ((with_reducible apply c_laws_eqMsg) <;> first | assumption | rfl)
       · simp only [go_sem]; with_reducible rfl)
    | (with_reducible apply al_snap (f := 21)
       · first | exact gchk_none rfl | simp only [go_sem, *]
       · rfl
       · exact Try.call21
       · simp only [go_sem, encCell, encMsg, zeroCell, *]; with_reducible rfl
       · simp only [go_sem, encCell, encMsg, zeroCell, *]; with_reducible rfl
       · first | assumption | ((with_reducible apply c_laws_heldCell) <;> first | assumption | rfl)
       · simp only [go_sem, *]
       · simp only [go_sem]; with_reducible rfl)
    | (with_reducible apply al_lendV (f := 20) 0
       · exact gchk_none rfl
       · rfl
       · exact Try.call20
       · simp only [go_sem, encCell, encMsg, zeroCell, *]; with_reducible rfl
       · simp only [go_sem]; with_reducible rfl
       · simp only [go_sem]; with_reducible rfl
       · simp only [go_sem]; with_reducible rfl
       · simp only [go_sem, *]
       · simp only [go_sem, encCell, encMsg, zeroCell, *]; with_reducible rfl
       · simp only [go_sem, encCell, encMsg, zeroCell, *]
       · simp only [go_sem, *]
       · simp only [go_sem, *]
       · simp only [go_sem]
         (with_reducible apply m_laws_markCell) <;> first | assumption | rfl
       · simp only [go_sem, encCell, encMsg, zeroCell, *]
       · simp only [go_sem, encCell, encMsg, zeroCell]; with_reducible rfl)
    | (with_reducible apply al_movetup
       · exact gchk_none rfl
       · rfl
       · simp only [go_sem, *]; with_reducible rfl
       · simp only [go_sem]; with_reducible rfl)
    | with_reducible refine ad_nil ?_
    | (with_reducible apply ad_q hT
       · first | exact gchk_none rfl | simp only [go_sem, *]
       · simp only [go_sem, encCell, encMsg, zeroCell, *]; first | done | with_reducible rfl
       · simp only [go_sem, *]
       · simp only [go_sem]; with_reducible rfl)
    | (with_reducible apply ad_call (f := 16)
       · first | exact gchk_none rfl | simp only [go_sem, *]
       · rfl
       · exact Try.call16
       · simp only [go_sem, encCell, encMsg, zeroCell, *]; with_reducible rfl
       · simp only [go_sem, *]
       · first | assumption | ((with_reducible apply c_laws_toCell) <;> first | assumption | rfl)
       · simp only [go_sem, *]
       · simp only [go_sem]; with_reducible rfl)
    | (with_reducible apply ad_snap (f := 18)
       · first | exact gchk_none rfl | simp only [go_sem, *]
       · rfl
       · exact Try.call18
       · simp only [go_sem, encCell, encMsg, zeroCell, *]; with_reducible rfl
       · simp only [go_sem, encCell, encMsg, zeroCell, *]; with_reducible rfl
       · first | assumption | ((with_reducible apply c_laws_eqCell) <;> first | assumption | rfl)
       · simp only [go_sem, *]
       · simp only [go_sem, *]
       · simp only [go_sem]; with_reducible rfl)
    | (with_reducible apply al_s hT true
       · first | exact gchk_none rfl | simp only [go_sem, *]
       · simp only [go_sem, encCell, encMsg, zeroCell, *]; first | done | with_reducible rfl)
    )
    all_goals ((simp only [go_sem, *]); first | done | rfl)
  · have hg : decide ((-1 : Int) < 0) = true := by decide
    refine sound_body hT Try.func4 rfl ?_
    rw [Try.results4, Try.ntmps4]
    simp only [frame, List.length_cons, List.length_nil, List.replicate, List.cons_append, List.nil_append, Nat.reduceAdd, Nat.reduceSub]
    repeat' (first
    | with_reducible first | refine aw_seq ?_ | refine aw_block ?_ | refine aw_skip ?_ | refine aw_exit ?_
    | with_reducible first | refine aw_ret ?_ | refine thenA_n ?_ | refine thenA_r ?_ | refine thenA_x ?_ | refine blockA_n ?_ | refine blockA_r ?_ | refine blockA_e ?_ | refine blockA_x (by decide) ?_ | refine ends_r ?_ | refine ends_n ?_ | refine ends_rM ?_ | refine ends_nM ?_ | refine aw_reg ?_
    | with_reducible refine al_nil ?_
    | (with_reducible apply aw_cond
       · simp only [go_sem, *]; with_reducible rfl
       all_goals (intro h; try simp only [Bool.not_eq_true', Bool.not_eq_false', reduceCtorEq] at h))
    | (with_reducible apply al_call (f := 14)
       · first | exact gchk_none rfl | simp only [go_sem, *]
       · rfl
       · exact Try.call14
       · simp only [go_sem, encCell, encMsg, *]; with_reducible rfl
       · simp only [go_sem, *]
       · first | assumption | ((with_reducible apply c_laws_szCell) <;> first | assumption | rfl)
       · simp only [go_sem]; with_reducible rfl)
    | (with_reducible apply al_s hT true
       · first | exact gchk_none rfl | simp only [go_sem, *]
       · simp only [go_sem, encCell, encMsg, *]; first | done | with_reducible rfl)
    )
    all_goals ((simp only [go_sem, *]); first | done | rfl)
end Go.Proofs.Ytedjmclcjkcooaa
