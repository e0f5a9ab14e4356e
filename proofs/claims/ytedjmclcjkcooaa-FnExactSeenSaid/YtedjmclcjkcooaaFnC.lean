/- Contracts: terms. -/
import Derived.Test.YtedjmclcjkcooaaFnB
namespace Go.Proofs.Ytedjmclcjkcooaa
open Go Go.RowKit Go.Bv
set_option linter.unusedSimpArgs false
set_option linter.unusedVariables false

/-- The empty text. -/
def isE (s : ByteArray) : Bool := s.toList == ByteArray.toList { data := #[] }
/-- How many a right term takes; -1: it is none. -/
def takesS (o n : Int) (s : ByteArray) : Int :=
  if (o = 1 ∨ o = 2 ∨ o = 3) ∧ (n == 0 && isE s) = true then 0
  else if o = 4 ∧ (isE s && (decide (n ≥ -999999999) && decide (n ≤ 999999999))) = true then 0
  else if o = 5 ∧ (isE s && (decide (n ≥ 1) && decide (n ≤ 999999999))) = true then 0
  else if (o = 6 ∨ o = 7) ∧ (n == 0 && partB s) = true then 0
  else if o = 8 ∧ (n == 0 && isE s) = true then 1
  else if (o = 9 ∨ o = 10) ∧ (n == 0 && isE s) = true then 2
  else -1
theorem opCases (o : Int) : o = 1 ∨ o = 2 ∨ o = 3 ∨ o = 4 ∨ o = 5 ∨ o = 6 ∨ o = 7 ∨ o = 8 ∨ o = 9 ∨ o = 10 ∨ ((o == 1) = false ∧ (o == 2) = false ∧ (o == 3) = false ∧ (o == 4) = false ∧ (o == 5) = false ∧ (o == 6) = false ∧ (o == 7) = false ∧ (o == 8) = false ∧ (o == 9) = false ∧ (o == 10) = false) := by
  simp only [beq_eq_false_iff_ne]
  omega
set_option maxHeartbeats 1000000 in
theorem c_spec_l8Takes (o n : Int) (s : ByteArray) (hs : s.size < 4611686018427387904) : Sound P 62 [.agg [.int .i64 o, .int .i64 n, .str s]] (.int .i64 (takesS o n s)) := by
  refine sound_body hT Try.func62 rfl ?_
  rw [Try.results62, Try.ntmps62]
  simp only [frame, List.length_cons, List.length_nil, List.replicate, List.cons_append, List.nil_append, Nat.reduceAdd, Nat.reduceSub]
  have he : (s.toList == ByteArray.toList { data := #[] }) = isE s := rfl
  rcases opCases o with rfl | rfl | rfl | rfl | rfl | rfl | rfl | rfl | rfl | rfl | ⟨h1, h2, h3, h4, h5, h6, h7, h8, h9, h10⟩
  repeat' (first
  | with_reducible first | refine aw_seq ?_ | refine aw_block ?_ | refine aw_skip ?_
  | with_reducible first | refine aw_ret ?_ | refine thenA_n ?_ | refine thenA_r ?_ | refine blockA_n ?_ | refine blockA_r ?_ | refine ends_r ?_ | refine aw_reg ?_
  | with_reducible refine al_nil ?_
  | (with_reducible apply aw_cond
     · simp only [go_sem, *]; with_reducible rfl
     all_goals (intro h; try simp only [Bool.not_eq_true', Bool.not_eq_false', reduceCtorEq] at h))
  | (with_reducible apply al_call (f := 63)
     · first | exact gchk_none rfl | simp only [go_sem, *]
     · rfl
     · exact Try.call63
     · simp only [go_sem, *]; with_reducible rfl
     · simp only [go_sem, *]
     · first | assumption | ((with_reducible apply c_spec_l1In) <;> first | assumption | rfl)
     · simp only [go_sem]; with_reducible rfl)
  | (with_reducible apply al_call (f := 84)
     · first | exact gchk_none rfl | simp only [go_sem, *]
     · rfl
     · exact Try.call84
     · simp only [go_sem, *]; with_reducible rfl
     · simp only [go_sem, *]
     · first | assumption | ((with_reducible apply c_spec_l8Part) <;> first | assumption | rfl)
     · simp only [go_sem]; with_reducible rfl)
  | (with_reducible apply al_s hT true
     · first | exact gchk_none rfl | simp only [go_sem, *]
     · simp only [go_sem, *]; first | done | with_reducible rfl)
  | (with_reducible apply al_skip
     · simp only [go_sem, *]
     · simp only [go_sem]; with_reducible rfl)
  | ((with_reducible first | apply al_caseT rfl | apply al_caseF rfl)
     · simp only [go_sem, *]; with_reducible rfl
     · simp only [go_sem]; with_reducible rfl
     all_goals (intro h; try simp only [Bool.not_eq_true', Bool.not_eq_false'] at h)
     fail_if_success (with_reducible have hh : (true = true ∨ false = false) := by first | exact Or.inl h | exact Or.inr h))
  )
  all_goals ((simp only [go_sem, *]); clear he; simp_all [takesS])
/-- A term that is right. -/
def termB (o n : Int) (s : ByteArray) : Bool :=
  if o = 1 ∨ o = 2 ∨ o = 3 ∨ o = 8 ∨ o = 9 ∨ o = 10 then n == 0 && isE s
  else if o = 4 then (decide (n ≥ -999999999) && decide (n ≤ 999999999)) && isE s
  else if o = 5 then (decide (n ≥ 1) && decide (n ≤ 999999999)) && isE s
  else if o = 6 ∨ o = 7 then n == 0 && partB s
  else false
set_option maxHeartbeats 1000000 in
theorem c_impl_termOk (o n : Int) (s : ByteArray) (hs : s.size < 4611686018427387904) : Sound P 66 [.agg [.int .i64 o, .int .i64 n, .str s]] (.bool (termB o n s)) := by
  refine sound_body hT Try.func66 rfl ?_
  rw [Try.results66, Try.ntmps66]
  simp only [frame, List.length_cons, List.length_nil, List.replicate, List.cons_append, List.nil_append, Nat.reduceAdd, Nat.reduceSub]
  have he : (s.toList == ByteArray.toList { data := #[] }) = isE s := rfl
  rcases opCases o with rfl | rfl | rfl | rfl | rfl | rfl | rfl | rfl | rfl | rfl | ⟨h1, h2, h3, h4, h5, h6, h7, h8, h9, h10⟩
  repeat' (first
  | with_reducible first | refine aw_seq ?_ | refine aw_block ?_ | refine aw_skip ?_
  | with_reducible first | refine aw_ret ?_ | refine thenA_n ?_ | refine thenA_r ?_ | refine blockA_n ?_ | refine blockA_r ?_ | refine ends_r ?_ | refine aw_reg ?_
  | with_reducible refine al_nil ?_
  | (with_reducible apply aw_cond
     · simp only [go_sem, *]; with_reducible rfl
     all_goals (intro h; try simp only [Bool.not_eq_true', Bool.not_eq_false', reduceCtorEq] at h))
  | (with_reducible apply al_call (f := 68)
     · first | exact gchk_none rfl | simp only [go_sem, *]
     · rfl
     · exact Try.call68
     · simp only [go_sem, *]; with_reducible rfl
     · simp only [go_sem, *]
     · first | assumption | ((with_reducible apply c_impl_within) <;> first | assumption | rfl)
     · simp only [go_sem]; with_reducible rfl)
  | (with_reducible apply al_call (f := 86)
     · first | exact gchk_none rfl | simp only [go_sem, *]
     · rfl
     · exact Try.call86
     · simp only [go_sem, *]; with_reducible rfl
     · simp only [go_sem, *]
     · first | assumption | ((with_reducible apply c_impl_partOk) <;> first | assumption | rfl)
     · simp only [go_sem]; with_reducible rfl)
  | (with_reducible apply al_s hT true
     · first | exact gchk_none rfl | simp only [go_sem, *]
     · simp only [go_sem, *]; first | done | with_reducible rfl)
  | (with_reducible apply al_skip
     · simp only [go_sem, *]
     · simp only [go_sem]; with_reducible rfl)
  | ((with_reducible first | apply al_caseT rfl | apply al_caseF rfl)
     · simp only [go_sem, *]; with_reducible rfl
     · simp only [go_sem]; with_reducible rfl
     all_goals (intro h; try simp only [Bool.not_eq_true', Bool.not_eq_false'] at h)
     fail_if_success (with_reducible have hh : (true = true ∨ false = false) := by first | exact Or.inl h | exact Or.inr h))
  )
  all_goals ((simp only [go_sem, *]); clear he; simp_all [termB]; try (intro a b; have := h a; omega))
end Go.Proofs.Ytedjmclcjkcooaa
