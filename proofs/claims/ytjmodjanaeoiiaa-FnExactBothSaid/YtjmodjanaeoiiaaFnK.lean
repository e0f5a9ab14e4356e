/- Contracts: two filters as one. -/
import Derived.Test.YtjmodjanaeoiiaaFnI
namespace Go.Proofs.Ytjmodjanaeoiiaa
open Go Go.RowKit Go.Bv
set_option linter.unusedSimpArgs false
set_option linter.unusedVariables false
set_option maxRecDepth 4000

theorem c_slices_Grow_impl_Term_impl_Term (n : Nat) (hn : n ≤ 4194304) : Sound P 109 [.lst true 0 [], .int .i64 n] (.lst true 3 []) := by
  have h0 : decide ((n : Int) < 0) = false := by simp
  have hw1 : IntKind.i64.wrap (n : Int) = n := by rw [wrap_small] <;> omega
  refine sound_body hT Go.Proofs.Try.func109 rfl ?_
  rw [Go.Proofs.Try.results109, Go.Proofs.Try.ntmps109]
  simp only [frame, List.length_cons, List.length_nil, List.replicate, List.cons_append, List.nil_append, Nat.reduceAdd, Nat.reduceSub]
  repeat' (first
  | with_reducible first | refine aw_seq ?_ | refine aw_block ?_ | refine aw_skip ?_ | refine aw_exit ?_
  | (with_reducible apply aw_ret_tag (r := 4) (p := []) 3
     · simp only [go_sem]; with_reducible rfl
     · simp only [go_sem]
     · simp only [go_sem]; first | done | with_reducible rfl
     · simp only [go_sem]; with_reducible rfl)
  | with_reducible first | refine aw_ret ?_ | refine thenA_n ?_ | refine thenA_r ?_ | refine thenA_x ?_ | refine blockA_n ?_ | refine blockA_r ?_ | refine blockA_e ?_ | refine blockA_x (by decide) ?_ | refine ends_r ?_ | refine ends_n ?_ | refine ends_rM ?_ | refine ends_nM ?_ | refine aw_reg ?_
  | (with_reducible refine aw_any hT ?_ ?_; · decide +kernel)
  | with_reducible refine al_nil ?_
  | (with_reducible apply aw_cond
     · simp only [go_sem, *]; with_reducible rfl
     all_goals (intro h; try simp only [Bool.not_eq_true', Bool.not_eq_false', reduceCtorEq] at h))
  | (with_reducible apply al_appendz hT
     · exact gchk_none rfl
     · rfl
     · simp only [go_sem]; first | done | with_reducible rfl
     · simp only [go_sem]; first | done | with_reducible rfl
     · simp only [go_sem]
     · simp only [go_sem]; first | done | with_reducible rfl
     · simp only [go_sem]
     · simp only [go_sem, List.all_replicate, ite_self, *]; with_reducible rfl
     · simp only [go_sem, List.all_replicate, ite_self, *]
     · simp only [go_sem, List.all_replicate, ite_self, *]; with_reducible rfl
     · first | omega | (simp only [decide_eq_true_eq] at *; omega)
     · omega
     · simp only [go_sem]; first | done | omega
     · simp only [go_sem]; with_reducible rfl)
  | (with_reducible apply al_cap0 hT
     · exact gchk_none rfl
     · rfl
     · simp only [go_sem]; first | done | with_reducible rfl
     · simp only [go_sem, List.all_replicate, ite_self, *]; with_reducible rfl
     · simp only [go_sem, List.all_replicate, ite_self, *]
     · simp only [go_sem]; with_reducible rfl)
  | (with_reducible apply al_s hT false
     · first | exact gchk_none rfl | simp only [go_sem, *]
     · simp only [go_sem, List.all_replicate, ite_self, *]; first | done | with_reducible rfl)
  | (with_reducible apply al_q hT
     · first | exact gchk_none rfl | simp only [go_sem, *]
     · simp only [go_sem, List.all_replicate, ite_self, *]; first | done | with_reducible rfl
     · simp only [go_sem]; with_reducible rfl)
  | (with_reducible apply al_skip
     · simp only [go_sem, *]
     · simp only [go_sem]; with_reducible rfl)
  | ((with_reducible first | apply al_caseT rfl | apply al_caseF rfl)
     · simp only [go_sem, *]; with_reducible rfl
     · simp only [go_sem]; with_reducible rfl
     all_goals (intro h; try simp only [Bool.not_eq_true', Bool.not_eq_false'] at h)
     fail_if_success (with_reducible have hh : (true = true ∨ false = false) := by first | exact Or.inl h | exact Or.inr h))
  )
  all_goals (simp only [go_sem, *])
/-- Lists of terms, of any size. -/
def encLT (p : Nat × List TermV) : AV := .lst false p.1 (p.2.map encT)
def catL (L : List (Nat × List TermV)) : List TermV := (L.map (·.2)).flatten
theorem catL_append (L M : List (Nat × List TermV)) : catL (L ++ M) = catL L ++ catL M := by simp [catL, List.map_append]
theorem catL_len (L : List (Nat × List TermV)) (i : Nat) : (catL (L.take i)).length ≤ (catL L).length := by
  have := congrArg List.length (catL_append (L.take i) (L.drop i))
  rw [List.take_append_drop, List.length_append] at this
  omega
theorem catL_succ {L : List (Nat × List TermV)} {i : Nat} {p : Nat × List TermV} (h : L[i]? = some p) : catL (L.take (i + 1)) = catL (L.take i) ++ p.2 := by
  rw [List.take_add_one, h]; simp [catL, List.map_append]
theorem concatTerms (L : List (Nat × List TermV)) (hL : L.length ≤ 1000) (hc : (catL L).length ≤ 2097152) : Sound P 60 [.lst false 1 (L.map encLT)] (.lst true 3 ((catL L).map encT)) := by
  refine sound_body hT Go.Proofs.Try.func60 rfl ?_
  rw [Go.Proofs.Try.results60, Go.Proofs.Try.ntmps60]
  simp only [frame, List.length_cons, List.length_nil, List.replicate, List.cons_append, List.nil_append, Nat.reduceAdd, Nat.reduceSub]
  repeat' (first
  | with_reducible first | refine aw_seq ?_ | refine aw_block ?_ | refine aw_skip ?_ | refine aw_exit ?_
  | (with_reducible apply aw_ret_tag (r := 2) (p := []) 3
     · simp only [go_sem]; with_reducible rfl
     · simp only [go_sem]
     · simp only [go_sem]; first | done | with_reducible rfl
     · simp only [go_sem]; with_reducible rfl)
  | with_reducible first | refine aw_ret ?_ | refine thenA_n ?_ | refine thenA_r ?_ | refine thenA_x ?_ | refine blockA_n ?_ | refine blockA_r ?_ | refine blockA_e ?_ | refine blockA_x (by decide) ?_ | refine ends_r ?_ | refine ends_n ?_ | refine ends_rM ?_ | refine ends_nM ?_ | refine aw_reg ?_
  | (with_reducible refine aw_any hT ?_ ?_; · decide +kernel)
  | with_reducible refine al_nil ?_
  | (with_reducible apply aw_cond
     · simp only [go_sem, *]; with_reducible rfl
     all_goals (intro h; try simp only [Bool.not_eq_true', Bool.not_eq_false', reduceCtorEq] at h))
  | (with_reducible apply al_call (f := 109)
     · first | exact gchk_none rfl | simp only [go_sem, *]
     · rfl
     · exact Go.Proofs.Try.call109
     · simp only [go_sem, *]; with_reducible rfl
     · simp only [go_sem, *]
     · (with_reducible apply c_slices_Grow_impl_Term_impl_Term) <;> assumption
     · simp only [go_sem]; with_reducible rfl)
  | (with_reducible apply al_snap (f := 109)
     · first | exact gchk_none rfl | simp only [go_sem, *]
     · rfl
     · exact Go.Proofs.Try.call109
     · simp only [go_sem, *]; with_reducible rfl
     · simp only [go_sem, *]; with_reducible rfl
     · (with_reducible apply c_slices_Grow_impl_Term_impl_Term) <;> assumption
     · simp only [go_sem, *]
     · simp only [go_sem]; with_reducible rfl)
  | (with_reducible apply al_append hT
     · exact gchk_none rfl
     · rfl
     · simp only [go_sem]; first | done | with_reducible rfl
     · simp only [go_sem]
     · simp only [go_sem]; first | done | with_reducible rfl
     · simp only [go_sem]
     · simp only [go_sem, *]; with_reducible rfl
     · simp only [go_sem, *]; with_reducible rfl
     · simp only [go_sem, *]
     · simp only [go_sem, *]; with_reducible rfl
     · simp only [go_sem, *]; with_reducible rfl
     · simp only [go_sem, *]
     · simp only [go_sem]; first | done | omega
     · simp only [go_sem]; first | done | omega
     · simp only [go_sem]; with_reducible rfl)
  | (with_reducible apply al_s hT false
     · first | exact gchk_none rfl | simp only [go_sem, *]
     · simp only [go_sem, *]; first | done | with_reducible rfl)
  | (with_reducible apply al_q hT
     · first | exact gchk_none rfl | simp only [go_sem, *]
     · simp only [go_sem, *]; first | done | with_reducible rfl
     · simp only [go_sem]; with_reducible rfl)
  | (with_reducible apply al_skip
     · simp only [go_sem, *]
     · simp only [go_sem]; with_reducible rfl)
  | ((with_reducible first | apply al_caseT rfl | apply al_caseF rfl)
     · simp only [go_sem, *]; with_reducible rfl
     · simp only [go_sem]; with_reducible rfl
     all_goals (intro h; try simp only [Bool.not_eq_true', Bool.not_eq_false'] at h)
     fail_if_success (with_reducible have hh : (true = true ∨ false = false) := by first | exact Or.inl h | exact Or.inr h))
  )
  refine aw_loop [1, 4, 5, 6, 7, 8, 12, 13, 14, 15, 16, 17, 18, 19, 20, 21, 22, 23, 24, 25, 26, 27, 28, 29, 30, 31, 32, 33, 34, 35] (fun n S => ∃ i : Nat, n = L.length - i ∧ i ≤ L.length ∧ S = [.lst false 1 (L.map encLT), .undef, .lst true 0 [], .int .i64 (catL (L.take i)).length, .undef, .undef, .undef, .undef, .undef, .lst false 1 (L.map encLT), .int .i64 L.length, .int .i64 i, .undef, .undef, .undef, .undef, .undef, .undef, .undef, .undef, .undef, .undef, .undef, .undef, .undef, .undef, .undef, .undef, .undef, .undef, .undef, .undef, .undef, .undef, .undef, .undef]) L.length ?_ ?_
  · refine ⟨0, by simp, by omega, ?_⟩
    simp only [clr, go_sem]
    first | done | rfl
  · rintro n S ⟨i, hn, hi, rfl⟩
    have hwi : IntKind.i64.wrap ((i : Int) + 1) = ((i + 1 : Nat) : Int) := by rw [wrap_small] <;> omega
    have hci := catL_len L i
    by_cases hlt : i < L.length
    · have hd : decide ((i : Int) < (L.length : Int)) = true := by simp [hlt]
      obtain ⟨p, hp⟩ : ∃ p, L[i]? = some p := ⟨L[i], by simp [hlt]⟩
      have hci' := catL_len L (i + 1)
      have hs := catL_succ hp
      have hsl : (catL (L.take (i + 1))).length = (catL (L.take i)).length + p.2.length := by rw [hs]; simp
      have hwl : IntKind.i64.wrap (((catL (L.take i)).length : Int) + (p.2.length : Int)) = ((catL (L.take (i + 1))).length : Int) := by rw [wrap_small] <;> omega
      have hneg : decide (((catL (L.take (i + 1))).length : Int) < 0) = false := by simp
      clear hs hsl
      repeat' (first
      | with_reducible first | refine aw_seq ?_ | refine aw_block ?_ | refine aw_skip ?_ | refine aw_exit ?_
      | (with_reducible apply aw_ret_tag (r := 2) (p := []) 3
         · simp only [go_sem]; with_reducible rfl
         · simp only [go_sem]
         · simp only [go_sem]; first | done | with_reducible rfl
         · simp only [go_sem]; with_reducible rfl)
      | with_reducible first | refine aw_ret ?_ | refine thenA_n ?_ | refine thenA_r ?_ | refine thenA_x ?_ | refine blockA_n ?_ | refine blockA_r ?_ | refine blockA_e ?_ | refine blockA_x (by decide) ?_ | refine ends_r ?_ | refine ends_n ?_ | refine ends_rM ?_ | refine ends_nM ?_ | refine aw_reg ?_
      | (with_reducible refine aw_any hT ?_ ?_; · decide +kernel)
      | with_reducible refine al_nil ?_
      | (with_reducible apply aw_cond
         · simp only [go_sem, *]; with_reducible rfl
         all_goals (intro h; try simp only [Bool.not_eq_true', Bool.not_eq_false', reduceCtorEq] at h))
      | (with_reducible apply al_call (f := 109)
         · first | exact gchk_none rfl | simp only [go_sem, *]
         · rfl
         · exact Go.Proofs.Try.call109
         · simp only [go_sem, encLT, *]; with_reducible rfl
         · simp only [go_sem, *]
         · (with_reducible apply c_slices_Grow_impl_Term_impl_Term) <;> assumption
         · simp only [go_sem]; with_reducible rfl)
      | (with_reducible apply al_snap (f := 109)
         · first | exact gchk_none rfl | simp only [go_sem, *]
         · rfl
         · exact Go.Proofs.Try.call109
         · simp only [go_sem, encLT, *]; with_reducible rfl
         · simp only [go_sem, encLT, *]; with_reducible rfl
         · (with_reducible apply c_slices_Grow_impl_Term_impl_Term) <;> assumption
         · simp only [go_sem, *]
         · simp only [go_sem]; with_reducible rfl)
      | (with_reducible apply al_append hT
         · exact gchk_none rfl
         · rfl
         · simp only [go_sem]; first | done | with_reducible rfl
         · simp only [go_sem]
         · simp only [go_sem]; first | done | with_reducible rfl
         · simp only [go_sem]
         · simp only [go_sem, encLT, *]; with_reducible rfl
         · simp only [go_sem, encLT, *]; with_reducible rfl
         · simp only [go_sem, *]
         · simp only [go_sem, encLT, *]; with_reducible rfl
         · simp only [go_sem, encLT, *]; with_reducible rfl
         · simp only [go_sem, *]
         · simp only [go_sem]; first | done | omega
         · simp only [go_sem]; first | done | omega
         · simp only [go_sem]; with_reducible rfl)
      | (with_reducible apply al_s hT false
         · first | exact gchk_none rfl | simp only [go_sem, *]
         · simp only [go_sem, encLT, *]; first | done | with_reducible rfl)
      | (with_reducible apply al_q hT
         · first | exact gchk_none rfl | simp only [go_sem, *]
         · simp only [go_sem, encLT, *]; first | done | with_reducible rfl
         · simp only [go_sem]; with_reducible rfl)
      | (with_reducible apply al_skip
         · simp only [go_sem, *]
         · simp only [go_sem]; with_reducible rfl)
      | ((with_reducible first | apply al_caseT rfl | apply al_caseF rfl)
         · simp only [go_sem, *]; with_reducible rfl
         · simp only [go_sem]; with_reducible rfl
         all_goals (intro h; try simp only [Bool.not_eq_true', Bool.not_eq_false'] at h)
         fail_if_success (with_reducible have hh : (true = true ∨ false = false) := by first | exact Or.inl h | exact Or.inr h))
      )
      refine ⟨L.length - (i + 1), by omega, i + 1, rfl, by omega, ?_⟩
      simp only [clr, go_sem]
    · have hd : decide ((i : Int) < (L.length : Int)) = false := by simp; omega
      have hall : catL (L.take i) = catL L := by rw [List.take_of_length_le (by omega)]
      rw [hall]
      have hcg : (catL L).length ≤ 4194304 := by omega
      repeat' (first
      | with_reducible first | refine aw_seq ?_ | refine aw_block ?_ | refine aw_skip ?_ | refine aw_exit ?_
      | (with_reducible apply aw_ret_tag (r := 2) (p := []) 3
         · simp only [go_sem]; with_reducible rfl
         · simp only [go_sem]
         · simp only [go_sem]; first | done | with_reducible rfl
         · simp only [go_sem]; with_reducible rfl)
      | with_reducible first | refine aw_ret ?_ | refine thenA_n ?_ | refine thenA_r ?_ | refine thenA_x ?_ | refine blockA_n ?_ | refine blockA_r ?_ | refine blockA_e ?_ | refine blockA_x (by decide) ?_ | refine ends_r ?_ | refine ends_n ?_ | refine ends_rM ?_ | refine ends_nM ?_ | refine aw_reg ?_
      | (with_reducible refine aw_any hT ?_ ?_; · decide +kernel)
      | with_reducible refine al_nil ?_
      | (with_reducible apply aw_cond
         · simp only [go_sem, *]; with_reducible rfl
         all_goals (intro h; try simp only [Bool.not_eq_true', Bool.not_eq_false', reduceCtorEq] at h))
      | (with_reducible apply al_call (f := 109)
         · first | exact gchk_none rfl | simp only [go_sem, *]
         · rfl
         · exact Go.Proofs.Try.call109
         · simp only [go_sem, *]; with_reducible rfl
         · simp only [go_sem, *]
         · (with_reducible apply c_slices_Grow_impl_Term_impl_Term) <;> assumption
         · simp only [go_sem]; with_reducible rfl)
      | (with_reducible apply al_snap (f := 109)
         · first | exact gchk_none rfl | simp only [go_sem, *]
         · rfl
         · exact Go.Proofs.Try.call109
         · simp only [go_sem, *]; with_reducible rfl
         · simp only [go_sem, *]; with_reducible rfl
         · (with_reducible apply c_slices_Grow_impl_Term_impl_Term) <;> assumption
         · simp only [go_sem, *]
         · simp only [go_sem]; with_reducible rfl)
      | (with_reducible apply al_append hT
         · exact gchk_none rfl
         · rfl
         · simp only [go_sem]; first | done | with_reducible rfl
         · simp only [go_sem]
         · simp only [go_sem]; first | done | with_reducible rfl
         · simp only [go_sem]
         · simp only [go_sem, *]; with_reducible rfl
         · simp only [go_sem, *]; with_reducible rfl
         · simp only [go_sem, *]
         · simp only [go_sem, *]; with_reducible rfl
         · simp only [go_sem, *]; with_reducible rfl
         · simp only [go_sem, *]
         · simp only [go_sem]; first | done | omega
         · simp only [go_sem]; first | done | omega
         · simp only [go_sem]; with_reducible rfl)
      | (with_reducible apply al_s hT false
         · first | exact gchk_none rfl | simp only [go_sem, *]
         · simp only [go_sem, *]; first | done | with_reducible rfl)
      | (with_reducible apply al_q hT
         · first | exact gchk_none rfl | simp only [go_sem, *]
         · simp only [go_sem, *]; first | done | with_reducible rfl
         · simp only [go_sem]; with_reducible rfl)
      | (with_reducible apply al_skip
         · simp only [go_sem, *]
         · simp only [go_sem]; with_reducible rfl)
      | ((with_reducible first | apply al_caseT rfl | apply al_caseF rfl)
         · simp only [go_sem, *]; with_reducible rfl
         · simp only [go_sem]; with_reducible rfl
         all_goals (intro h; try simp only [Bool.not_eq_true', Bool.not_eq_false'] at h)
         fail_if_success (with_reducible have hh : (true = true ∨ false = false) := by first | exact Or.inl h | exact Or.inr h))
      )
      clear hall
      refine aw_loop [1, 3, 4, 5, 7, 8, 9, 10, 11, 12, 13, 14, 15, 16, 17, 18, 19, 20, 21, 22, 23, 24, 28, 29, 30, 31, 32, 33, 34, 35] (fun n S => ∃ i : Nat, n = L.length - i ∧ i ≤ L.length ∧ S = [.lst false 1 (L.map encLT), .undef, .lst true 0 [], .undef, .undef, .undef, .lst true 3 ((catL (L.take i)).map encT), .undef, .undef, .undef, .undef, .undef, .undef, .undef, .undef, .undef, .undef, .undef, .undef, .undef, .undef, .undef, .undef, .undef, .undef, .lst false 1 (L.map encLT), .int .i64 L.length, .int .i64 i, .undef, .undef, .undef, .undef, .undef, .undef, .undef, .undef]) L.length ?_ ?_
      · refine ⟨0, by simp, by omega, ?_⟩
        simp only [clr, go_sem]
        first | done | rfl
      · rintro n S ⟨j, hn, hj, rfl⟩
        have hwj : IntKind.i64.wrap ((j : Int) + 1) = ((j + 1 : Nat) : Int) := by rw [wrap_small] <;> omega
        have hcj := catL_len L j
        by_cases hlt : j < L.length
        · have hd : decide ((j : Int) < (L.length : Int)) = true := by simp [hlt]
          obtain ⟨p, hp⟩ : ∃ p, L[j]? = some p := ⟨L[j], by simp [hlt]⟩
          have hcj' := catL_len L (j + 1)
          have hs := catL_succ hp
          have hsl : (catL (L.take (j + 1))).length = (catL (L.take j)).length + p.2.length := by rw [hs]; simp
          have hwl : (catL (L.take j)).map encT ++ p.2.map encT = (catL (L.take (j + 1))).map encT := by rw [hs]; simp
          clear hs
          repeat' (first
          | with_reducible first | refine aw_seq ?_ | refine aw_block ?_ | refine aw_skip ?_ | refine aw_exit ?_
          | (with_reducible apply aw_ret_tag (r := 2) (p := []) 3
             · simp only [go_sem]; with_reducible rfl
             · simp only [go_sem]
             · simp only [go_sem]; first | done | with_reducible rfl
             · simp only [go_sem]; with_reducible rfl)
          | with_reducible first | refine aw_ret ?_ | refine thenA_n ?_ | refine thenA_r ?_ | refine thenA_x ?_ | refine blockA_n ?_ | refine blockA_r ?_ | refine blockA_e ?_ | refine blockA_x (by decide) ?_ | refine ends_r ?_ | refine ends_n ?_ | refine ends_rM ?_ | refine ends_nM ?_ | refine aw_reg ?_
          | (with_reducible refine aw_any hT ?_ ?_; · decide +kernel)
          | with_reducible refine al_nil ?_
          | (with_reducible apply aw_cond
             · simp only [go_sem, *]; with_reducible rfl
             all_goals (intro h; try simp only [Bool.not_eq_true', Bool.not_eq_false', reduceCtorEq] at h))
          | (with_reducible apply al_call (f := 109)
             · first | exact gchk_none rfl | simp only [go_sem, *]
             · rfl
             · exact Go.Proofs.Try.call109
             · simp only [go_sem, encLT, *]; with_reducible rfl
             · simp only [go_sem, *]
             · (with_reducible apply c_slices_Grow_impl_Term_impl_Term) <;> assumption
             · simp only [go_sem]; with_reducible rfl)
          | (with_reducible apply al_snap (f := 109)
             · first | exact gchk_none rfl | simp only [go_sem, *]
             · rfl
             · exact Go.Proofs.Try.call109
             · simp only [go_sem, encLT, *]; with_reducible rfl
             · simp only [go_sem, encLT, *]; with_reducible rfl
             · (with_reducible apply c_slices_Grow_impl_Term_impl_Term) <;> assumption
             · simp only [go_sem, *]
             · simp only [go_sem]; with_reducible rfl)
          | (with_reducible apply al_append hT
             · exact gchk_none rfl
             · rfl
             · simp only [go_sem]; first | done | with_reducible rfl
             · simp only [go_sem]
             · simp only [go_sem]; first | done | with_reducible rfl
             · simp only [go_sem]
             · simp only [go_sem, encLT, *]; with_reducible rfl
             · simp only [go_sem, encLT, *]; with_reducible rfl
             · simp only [go_sem, *]
             · simp only [go_sem, encLT, *]; with_reducible rfl
             · simp only [go_sem, encLT, *]; with_reducible rfl
             · simp only [go_sem, *]
             · simp only [go_sem]; first | done | omega
             · simp only [go_sem]; first | done | omega
             · simp only [go_sem]; with_reducible rfl)
          | (with_reducible apply al_s hT false
             · first | exact gchk_none rfl | simp only [go_sem, *]
             · simp only [go_sem, encLT, *]; first | done | with_reducible rfl)
          | (with_reducible apply al_q hT
             · first | exact gchk_none rfl | simp only [go_sem, *]
             · simp only [go_sem, encLT, *]; first | done | with_reducible rfl
             · simp only [go_sem]; with_reducible rfl)
          | (with_reducible apply al_skip
             · simp only [go_sem, *]
             · simp only [go_sem]; with_reducible rfl)
          | ((with_reducible first | apply al_caseT rfl | apply al_caseF rfl)
             · simp only [go_sem, *]; with_reducible rfl
             · simp only [go_sem]; with_reducible rfl
             all_goals (intro h; try simp only [Bool.not_eq_true', Bool.not_eq_false'] at h)
             fail_if_success (with_reducible have hh : (true = true ∨ false = false) := by first | exact Or.inl h | exact Or.inr h))
          )
          refine ⟨L.length - (j + 1), by omega, j + 1, rfl, by omega, ?_⟩
          simp only [clr, go_sem, hwl]
        · have hd : decide ((j : Int) < (L.length : Int)) = false := by simp; omega
          have hall : catL (L.take j) = catL L := by rw [List.take_of_length_le (by omega)]
          rw [hall]
          clear hall
          repeat' (first
          | with_reducible first | refine aw_seq ?_ | refine aw_block ?_ | refine aw_skip ?_ | refine aw_exit ?_
          | (with_reducible apply aw_ret_tag (r := 2) (p := []) 3
             · simp only [go_sem]; with_reducible rfl
             · simp only [go_sem]
             · simp only [go_sem]; first | done | with_reducible rfl
             · simp only [go_sem]; with_reducible rfl)
          | with_reducible first | refine aw_ret ?_ | refine thenA_n ?_ | refine thenA_r ?_ | refine thenA_x ?_ | refine blockA_n ?_ | refine blockA_r ?_ | refine blockA_e ?_ | refine blockA_x (by decide) ?_ | refine ends_r ?_ | refine ends_n ?_ | refine ends_rM ?_ | refine ends_nM ?_ | refine aw_reg ?_
          | (with_reducible refine aw_any hT ?_ ?_; · decide +kernel)
          | with_reducible refine al_nil ?_
          | (with_reducible apply aw_cond
             · simp only [go_sem, *]; with_reducible rfl
             all_goals (intro h; try simp only [Bool.not_eq_true', Bool.not_eq_false', reduceCtorEq] at h))
          | (with_reducible apply al_call (f := 109)
             · first | exact gchk_none rfl | simp only [go_sem, *]
             · rfl
             · exact Go.Proofs.Try.call109
             · simp only [go_sem, *]; with_reducible rfl
             · simp only [go_sem, *]
             · (with_reducible apply c_slices_Grow_impl_Term_impl_Term) <;> assumption
             · simp only [go_sem]; with_reducible rfl)
          | (with_reducible apply al_snap (f := 109)
             · first | exact gchk_none rfl | simp only [go_sem, *]
             · rfl
             · exact Go.Proofs.Try.call109
             · simp only [go_sem, *]; with_reducible rfl
             · simp only [go_sem, *]; with_reducible rfl
             · (with_reducible apply c_slices_Grow_impl_Term_impl_Term) <;> assumption
             · simp only [go_sem, *]
             · simp only [go_sem]; with_reducible rfl)
          | (with_reducible apply al_append hT
             · exact gchk_none rfl
             · rfl
             · simp only [go_sem]; first | done | with_reducible rfl
             · simp only [go_sem]
             · simp only [go_sem]; first | done | with_reducible rfl
             · simp only [go_sem]
             · simp only [go_sem, *]; with_reducible rfl
             · simp only [go_sem, *]; with_reducible rfl
             · simp only [go_sem, *]
             · simp only [go_sem, *]; with_reducible rfl
             · simp only [go_sem, *]; with_reducible rfl
             · simp only [go_sem, *]
             · simp only [go_sem]; first | done | omega
             · simp only [go_sem]; first | done | omega
             · simp only [go_sem]; with_reducible rfl)
          | (with_reducible apply al_s hT false
             · first | exact gchk_none rfl | simp only [go_sem, *]
             · simp only [go_sem, *]; first | done | with_reducible rfl)
          | (with_reducible apply al_q hT
             · first | exact gchk_none rfl | simp only [go_sem, *]
             · simp only [go_sem, *]; first | done | with_reducible rfl
             · simp only [go_sem]; with_reducible rfl)
          | (with_reducible apply al_skip
             · simp only [go_sem, *]
             · simp only [go_sem]; with_reducible rfl)
          | ((with_reducible first | apply al_caseT rfl | apply al_caseF rfl)
             · simp only [go_sem, *]; with_reducible rfl
             · simp only [go_sem]; with_reducible rfl
             all_goals (intro h; try simp only [Bool.not_eq_true', Bool.not_eq_false'] at h)
             fail_if_success (with_reducible have hh : (true = true ∨ false = false) := by first | exact Or.inl h | exact Or.inr h))
          )
          all_goals (simp only [go_sem, *])
theorem c_slices_Concat_impl_Term_impl_Term {s s' : Nat} (f g : List TermV) (hf : f.length ≤ 1048576) (hg : g.length ≤ 1048576) : Sound P 60 [.lst false 1 [.lst false s (f.map encT), .lst false s' (g.map encT)]] (.lst true 3 ((f ++ g).map encT)) := by
  have h := concatTerms [(s, f), (s', g)] (by simp) (by simp [catL]; omega)
  simpa only [catL, encLT, List.map_cons, List.map_nil, List.flatten_cons, List.flatten_nil, List.append_nil] using h
end Go.Proofs.Ytjmodjanaeoiiaa
