/- Contracts: the law's own helpers for filters. -/
import Derived.Test.YtjmodjanaeoiiaaFnD
import Derived.Test.YtjmodjanaeoiiaaBvZ
namespace Go.Proofs.Ytjmodjanaeoiiaa
set_option maxRecDepth 4000
open Go Go.RowKit Go.Bv
set_option linter.unusedSimpArgs false
set_option linter.unusedVariables false

/-- What is left of the room behind a term. -/
def szT (t : TermV) (left : Int) : Int := if left - t.text.size < 0 then -1 else left - t.text.size
theorem c_laws_szTerm (o n : Int) (s : ByteArray) (left : Int) (hs : s.size < 4611686018427387904) (h0 : 0 ≤ left) (h1 : left ≤ 1048576) : Sound P 52 [.agg [.int .i64 o, .int .i64 n, .str s], .int .i64 left] (.int .i64 (szT ⟨o, n, s⟩ left)) := by
  have hw : IntKind.i64.wrap (left - s.size) = left - s.size := by rw [wrap_small] <;> omega
  refine sound_body hT Go.Proofs.Try.func52 rfl ?_
  rw [Go.Proofs.Try.results52, Go.Proofs.Try.ntmps52]
  simp only [frame, List.length_cons, List.length_nil, List.replicate, List.cons_append, List.nil_append, Nat.reduceAdd, Nat.reduceSub]
  repeat' (first
  | with_reducible first | refine aw_seq ?_ | refine aw_block ?_ | refine aw_skip ?_ | refine aw_exit ?_
  | with_reducible first | refine aw_ret ?_ | refine thenA_n ?_ | refine thenA_r ?_ | refine thenA_x ?_ | refine blockA_n ?_ | refine blockA_r ?_ | refine blockA_e ?_ | refine blockA_x (by decide) ?_ | refine ends_r ?_ | refine ends_n ?_ | refine ends_rM ?_ | refine ends_nM ?_ | refine aw_reg ?_
  | (with_reducible refine aw_any hT ?_ ?_; · decide +kernel)
  | with_reducible refine al_nil ?_
  | (with_reducible apply aw_cond
     · simp only [go_sem, *]; with_reducible rfl
     all_goals (intro h; try simp only [Bool.not_eq_true', Bool.not_eq_false', reduceCtorEq] at h))
  | (with_reducible apply al_s hT true
     · first | exact gchk_none rfl | simp only [go_sem, *]
     · simp only [go_sem, *]; first | done | with_reducible rfl)
  | (with_reducible apply al_q hT
     · first | exact gchk_none rfl | simp only [go_sem, *]
     · simp only [go_sem, *]; first | done | with_reducible rfl
     · simp only [go_sem]; with_reducible rfl)
  | (with_reducible apply al_skip
     · simp only [go_sem, *]
     · simp only [go_sem]; with_reducible rfl)
  | ((with_reducible first | apply al_caseT rfl | apply al_caseF rfl)
     · simp only [go_sem, *]; with_reducible rfl
     · simp only [go_sem]; with_reducible rfl
     all_goals (intro h; try simp only [Bool.not_eq_true', Bool.not_eq_false'] at h)
     fail_if_success (with_reducible have hh : (true = true ∨ false = false) := by first | exact Or.inl h | exact Or.inr h))
  )
  all_goals ((simp only [go_sem, *]); first | done | (simp_all [szT]; try omega))
theorem c_laws_toTerm (o n : Int) (s : ByteArray) : Sound P 54 [.agg [.int .i64 o, .int .i64 n, .str s]] (.agg [.int .i64 o, .int .i64 n, .str s]) := by
  refine sound_body hT Go.Proofs.Try.func54 rfl ?_
  rw [Go.Proofs.Try.results54, Go.Proofs.Try.ntmps54]
  simp only [frame, List.length_cons, List.length_nil, List.replicate, List.cons_append, List.nil_append, Nat.reduceAdd, Nat.reduceSub]
  repeat' (first
  | with_reducible first | refine aw_seq ?_ | refine aw_block ?_ | refine aw_skip ?_ | refine aw_exit ?_
  | with_reducible first | refine aw_ret ?_ | refine thenA_n ?_ | refine thenA_r ?_ | refine thenA_x ?_ | refine blockA_n ?_ | refine blockA_r ?_ | refine blockA_e ?_ | refine blockA_x (by decide) ?_ | refine ends_r ?_ | refine ends_n ?_ | refine ends_rM ?_ | refine ends_nM ?_ | refine aw_reg ?_
  | (with_reducible refine aw_any hT ?_ ?_; · decide +kernel)
  | with_reducible refine al_nil ?_
  | (with_reducible apply aw_cond
     · simp only [go_sem, *]; with_reducible rfl
     all_goals (intro h; try simp only [Bool.not_eq_true', Bool.not_eq_false', reduceCtorEq] at h))
  | (with_reducible apply al_s hT true
     · first | exact gchk_none rfl | simp only [go_sem, *]
     · simp only [go_sem, *]; first | done | with_reducible rfl)
  | (with_reducible apply al_q hT
     · first | exact gchk_none rfl | simp only [go_sem, *]
     · simp only [go_sem, *]; first | done | with_reducible rfl
     · simp only [go_sem]; with_reducible rfl)
  | (with_reducible apply al_skip
     · simp only [go_sem, *]
     · simp only [go_sem]; with_reducible rfl)
  | ((with_reducible first | apply al_caseT rfl | apply al_caseF rfl)
     · simp only [go_sem, *]; with_reducible rfl
     · simp only [go_sem]; with_reducible rfl
     all_goals (intro h; try simp only [Bool.not_eq_true', Bool.not_eq_false'] at h)
     fail_if_success (with_reducible have hh : (true = true ∨ false = false) := by first | exact Or.inl h | exact Or.inr h))
  )
  (simp only [go_sem, *])
/-- The same text. -/
def sameS (a b : ByteArray) : Bool := a.toList == b.toList
theorem c_laws_eqTerm (o n : Int) (s : ByteArray) (o' n' : Int) (s' : ByteArray) : Sound P 57 [.agg [.int .i64 o, .int .i64 n, .str s], .agg [.int .i64 o', .int .i64 n', .str s']] (.bool (o == o' && n == n' && sameS s s')) := by
  have hs : (s.toList == s'.toList) = sameS s s' := rfl
  refine sound_body hT Go.Proofs.Try.func57 rfl ?_
  rw [Go.Proofs.Try.results57, Go.Proofs.Try.ntmps57]
  simp only [frame, List.length_cons, List.length_nil, List.replicate, List.cons_append, List.nil_append, Nat.reduceAdd, Nat.reduceSub]
  repeat' (first
  | with_reducible first | refine aw_seq ?_ | refine aw_block ?_ | refine aw_skip ?_ | refine aw_exit ?_
  | with_reducible first | refine aw_ret ?_ | refine thenA_n ?_ | refine thenA_r ?_ | refine thenA_x ?_ | refine blockA_n ?_ | refine blockA_r ?_ | refine blockA_e ?_ | refine blockA_x (by decide) ?_ | refine ends_r ?_ | refine ends_n ?_ | refine ends_rM ?_ | refine ends_nM ?_ | refine aw_reg ?_
  | (with_reducible refine aw_any hT ?_ ?_; · decide +kernel)
  | with_reducible refine al_nil ?_
  | (with_reducible apply aw_cond
     · simp only [go_sem, *]; with_reducible rfl
     all_goals (intro h; try simp only [Bool.not_eq_true', Bool.not_eq_false', reduceCtorEq] at h))
  | (with_reducible apply al_s hT true
     · first | exact gchk_none rfl | simp only [go_sem, *]
     · simp only [go_sem, *]; first | done | with_reducible rfl)
  | (with_reducible apply al_q hT
     · first | exact gchk_none rfl | simp only [go_sem, *]
     · simp only [go_sem, *]; first | done | with_reducible rfl
     · simp only [go_sem]; with_reducible rfl)
  | (with_reducible apply al_skip
     · simp only [go_sem, *]
     · simp only [go_sem]; with_reducible rfl)
  | ((with_reducible first | apply al_caseT rfl | apply al_caseF rfl)
     · simp only [go_sem, *]; with_reducible rfl
     · simp only [go_sem]; with_reducible rfl
     all_goals (intro h; try simp only [Bool.not_eq_true', Bool.not_eq_false'] at h)
     fail_if_success (with_reducible have hh : (true = true ∨ false = false) := by first | exact Or.inl h | exact Or.inr h))
  )
  all_goals ((simp only [go_sem, *]); first | done | (clear hs; simp_all))

/-- What is left behind them all; below 0: there was no room. -/
def szTs : List TermV → Int → Int
  | [], left => left
  | t :: ts, left => if szT t left < 0 then -1 else szTs ts (szT t left)
def szAll (f : List TermV) (left : Int) : Int := if left - f.length < 0 then -1 else szTs f (left - f.length)
theorem getElem?_rep {α : Type} {n i : Nat} (z : α) (h : i < n) : (List.replicate n z)[i]? = some z := by simp [h]
def zeroT : AV := .agg [.int .i64 0, .int .i64 0, .str { data := #[] }]
/-- The first i are there, the others are zero. -/
def fillT (f : List TermV) (i : Nat) : List AV := (f.take i).map encT ++ List.replicate (f.length - i) zeroT
theorem fillT_at {f : List TermV} {i : Nat} (h : i < f.length) : (fillT f i)[i]? = some zeroT := by
  unfold fillT
  rw [List.getElem?_append_right (by simp; omega), List.getElem?_replicate, if_pos (by simp; omega)]
theorem fillT_set {f : List TermV} {i : Nat} {t : TermV} (h : f[i]? = some t) : (fillT f i).set i (encT t) = fillT f (i + 1) := by
  have hi := (List.getElem?_eq_some_iff.1 h).1
  have ht := (List.getElem?_eq_some_iff.1 h).2
  unfold fillT
  rw [List.set_append_right _ _ (by simp; omega)]
  rw [← List.take_append_getElem hi, ht]
  have e : f.length - i = (f.length - (i + 1)) + 1 := by omega
  have e2 : i - ((f.take i).map encT).length = 0 := by simp; omega
  rw [e2, e, List.replicate_succ]
  simp
theorem fillT_all {f : List TermV} {i : Nat} (h : f.length ≤ i) : fillT f i = f.map encT := by
  unfold fillT
  rw [List.take_of_length_le h, Nat.sub_eq_zero_of_le h]; simp
theorem c_laws_toTermS {s : Nat} (f : List TermV) (hf : f.length ≤ 1048576) : Sound P 13 [.lst false s (f.map encT)] (.lst true 3 (f.map encT)) := by
  refine sound_body hT Go.Proofs.Try.func13 rfl ?_
  rw [Go.Proofs.Try.results13, Go.Proofs.Try.ntmps13]
  simp only [frame, List.length_cons, List.length_nil, List.replicate, List.cons_append, List.nil_append, Nat.reduceAdd, Nat.reduceSub]
  repeat' (first
  | with_reducible first | refine aw_seq ?_ | refine aw_block ?_ | refine aw_skip ?_ | refine aw_exit ?_
  | (with_reducible apply aw_ret_tag (r := 2) (p := []) 3
     · simp only [go_sem]; with_reducible rfl
     · simp only [go_sem]
     · simp only [go_sem]; first | done | with_reducible rfl
     · simp only [go_sem]; with_reducible rfl)
  | with_reducible first | refine aw_ret ?_ | refine thenA_n ?_ | refine thenA_r ?_ | refine thenA_x ?_ | refine blockA_n ?_ | refine blockA_r ?_ | refine blockA_e ?_ | refine blockA_x (by decide) ?_ | refine ends_r ?_ | refine ends_n ?_ | refine ends_rM ?_ | refine ends_nM ?_ | refine aw_reg ?_
  | (with_reducible refine aw_any hT ?_ ?_; · decide +kernel)
  | with_reducible refine al_nil ?_
  | (with_reducible apply aw_cond
     · simp only [go_sem, *]; with_reducible rfl
     all_goals (intro h; try simp only [Bool.not_eq_true', Bool.not_eq_false', reduceCtorEq] at h))
  | (with_reducible apply al_call (f := 54)
     · first | exact gchk_none rfl | simp only [go_sem, *]
     · rfl
     · exact Go.Proofs.Try.call54
     · simp only [go_sem, List.length_map, *]; with_reducible rfl
     · simp only [go_sem, *]
     · (with_reducible apply c_laws_toTerm) <;> assumption
     · simp only [go_sem]; with_reducible rfl)
  | (with_reducible apply al_snap (f := 54)
     · first | exact gchk_none rfl | simp only [go_sem, *]
     · rfl
     · exact Go.Proofs.Try.call54
     · simp only [go_sem, List.length_map, *]; with_reducible rfl
     · simp only [go_sem, List.length_map, *]; with_reducible rfl
     · (with_reducible apply c_laws_toTerm) <;> assumption
     · simp only [go_sem, *]
     · simp only [go_sem]; with_reducible rfl)
  | (with_reducible apply al_make hT
     · first | exact gchk_none rfl | simp only [go_sem, *]
     · rfl
     · simp only [go_sem]; with_reducible rfl
     · simp only [go_sem]; with_reducible rfl
     · simp only [go_sem]
     · simp only [go_sem, List.length_map, *]; with_reducible rfl
     · simp only [go_sem, List.length_map, *]; with_reducible rfl
     · exact Nat.le_refl _
     · simp only [go_sem]
     · simp only [go_sem]; omega
     · unfold maxLen; omega
     · simp only [go_sem]; with_reducible rfl)
  | (with_reducible apply al_s hT true
     · first | exact gchk_none rfl | simp only [go_sem, *]
     · simp only [go_sem, List.length_map, *]; first | done | with_reducible rfl)
  | (with_reducible apply al_q hT
     · first | exact gchk_none rfl | simp only [go_sem, *]
     · simp only [go_sem, List.length_map, *]; first | done | with_reducible rfl
     · simp only [go_sem]; with_reducible rfl)
  | (with_reducible apply al_skip
     · simp only [go_sem, *]
     · simp only [go_sem]; with_reducible rfl)
  | ((with_reducible first | apply al_caseT rfl | apply al_caseF rfl)
     · simp only [go_sem, *]; with_reducible rfl
     · simp only [go_sem]; with_reducible rfl
     all_goals (intro h; try simp only [Bool.not_eq_true', Bool.not_eq_false'] at h)
     fail_if_success (with_reducible have hh : (true = true ∨ false = false) := by first | exact Or.inl h | exact Or.inr h))
  )
  · refine aw_loop [1, 5, 6, 8, 9, 10, 11, 12, 13, 14, 15, 16, 17, 18, 19, 20, 21, 22] (fun n S => ∃ i : Nat, n = f.length - i ∧ i ≤ f.length ∧ S = [.lst false s (f.map encT), .undef, .lst true 0 [], .ref 7 [] 0 f.length, .int .i64 i, .undef, .undef, .lst true 3 (fillT f i), .undef, .undef, .undef, .undef, .undef, .undef, .undef, .undef, .undef, .undef, .undef, .undef, .undef, .undef, .undef]) f.length ?_ ?_
    · refine ⟨0, by simp, by omega, ?_⟩
      simp only [clr, go_sem]
      simp [fillT, zeroT]
    · rintro n S ⟨i, hn, hi, rfl⟩
      have hw : IntKind.i64.wrap ((i : Int) + 1) = ((i + 1 : Nat) : Int) := by rw [wrap_small] <;> omega
      by_cases hlt : i < f.length
      · have hd : (i : Int) < (f.length : Int) := by omega
        obtain ⟨t, hti⟩ : ∃ t, f[i]? = some t := ⟨f[i], by simp [hlt]⟩
        have hfi := fillT_at hlt
        have hfs : (fillT f i).set i (.agg [.int .i64 t.op, .int .i64 t.num, .str t.text]) = fillT f (i + 1) := fillT_set hti
        repeat' (first
        | with_reducible first | refine aw_seq ?_ | refine aw_block ?_ | refine aw_skip ?_ | refine aw_exit ?_
        | (with_reducible apply aw_ret_tag (r := 2) (p := []) 3
           · simp only [go_sem]; with_reducible rfl
           · simp only [go_sem]
           · simp only [go_sem]; first | done | with_reducible rfl
           · simp only [go_sem]; with_reducible rfl)
        | with_reducible first | refine aw_ret ?_ | refine thenA_n ?_ | refine thenA_r ?_ | refine thenA_x ?_ | refine blockA_n ?_ | refine blockA_r ?_ | refine blockA_e ?_ | refine blockA_x (by decide) ?_ | refine ends_r ?_ | refine ends_n ?_ | refine ends_rM ?_ | refine ends_nM ?_ | refine aw_reg ?_
        | (with_reducible refine aw_any hT ?_ ?_; · decide +kernel)
        | with_reducible refine al_nil ?_
        | (with_reducible apply aw_cond
           · simp only [go_sem, *]; with_reducible rfl
           all_goals (intro h; try simp only [Bool.not_eq_true', Bool.not_eq_false', reduceCtorEq] at h))
        | (with_reducible apply al_call (f := 54)
           · first | exact gchk_none rfl | simp only [go_sem, *]
           · rfl
           · exact Go.Proofs.Try.call54
           · simp only [go_sem, List.length_map, encT, zeroT, *]; with_reducible rfl
           · simp only [go_sem, *]
           · (with_reducible apply c_laws_toTerm) <;> assumption
           · simp only [go_sem]; with_reducible rfl)
        | (with_reducible apply al_snap (f := 54)
           · first | exact gchk_none rfl | simp only [go_sem, *]
           · rfl
           · exact Go.Proofs.Try.call54
           · simp only [go_sem, List.length_map, encT, zeroT, *]; with_reducible rfl
           · simp only [go_sem, List.length_map, encT, zeroT, *]; with_reducible rfl
           · (with_reducible apply c_laws_toTerm) <;> assumption
           · simp only [go_sem, *]
           · simp only [go_sem]; with_reducible rfl)
        | (with_reducible apply al_make hT
           · first | exact gchk_none rfl | simp only [go_sem, *]
           · rfl
           · simp only [go_sem]; with_reducible rfl
           · simp only [go_sem]; with_reducible rfl
           · simp only [go_sem]
           · simp only [go_sem, List.length_map, encT, zeroT, *]; with_reducible rfl
           · simp only [go_sem, List.length_map, encT, zeroT, *]; with_reducible rfl
           · exact Nat.le_refl _
           · simp only [go_sem]
           · simp only [go_sem]; omega
           · unfold maxLen; omega
           · simp only [go_sem]; with_reducible rfl)
        | (with_reducible apply al_s hT true
           · first | exact gchk_none rfl | simp only [go_sem, *]
           · simp only [go_sem, List.length_map, encT, zeroT, *]; first | done | with_reducible rfl)
        | (with_reducible apply al_q hT
           · first | exact gchk_none rfl | simp only [go_sem, *]
           · simp only [go_sem, List.length_map, encT, zeroT, *]; first | done | with_reducible rfl
           · simp only [go_sem]; with_reducible rfl)
        | (with_reducible apply al_skip
           · simp only [go_sem, *]
           · simp only [go_sem]; with_reducible rfl)
        | ((with_reducible first | apply al_caseT rfl | apply al_caseF rfl)
           · simp only [go_sem, *]; with_reducible rfl
           · simp only [go_sem]; with_reducible rfl
           all_goals (intro h; try simp only [Bool.not_eq_true', Bool.not_eq_false'] at h)
           fail_if_success (with_reducible have hh : (true = true ∨ false = false) := by first | exact Or.inl h | exact Or.inr h))
        )
        refine ⟨f.length - (i + 1), by omega, i + 1, rfl, by omega, ?_⟩
        simp only [clr, go_sem]
      · have hd : decide ((i : Int) < (f.length : Int)) = false := by simp; omega
        repeat' (first
        | with_reducible first | refine aw_seq ?_ | refine aw_block ?_ | refine aw_skip ?_ | refine aw_exit ?_
        | (with_reducible apply aw_ret_tag (r := 2) (p := []) 3
           · simp only [go_sem]; with_reducible rfl
           · simp only [go_sem]
           · simp only [go_sem]; first | done | with_reducible rfl
           · simp only [go_sem]; with_reducible rfl)
        | with_reducible first | refine aw_ret ?_ | refine thenA_n ?_ | refine thenA_r ?_ | refine thenA_x ?_ | refine blockA_n ?_ | refine blockA_r ?_ | refine blockA_e ?_ | refine blockA_x (by decide) ?_ | refine ends_r ?_ | refine ends_n ?_ | refine ends_rM ?_ | refine ends_nM ?_ | refine aw_reg ?_
        | (with_reducible refine aw_any hT ?_ ?_; · decide +kernel)
        | with_reducible refine al_nil ?_
        | (with_reducible apply aw_cond
           · simp only [go_sem, *]; with_reducible rfl
           all_goals (intro h; try simp only [Bool.not_eq_true', Bool.not_eq_false', reduceCtorEq] at h))
        | (with_reducible apply al_call (f := 54)
           · first | exact gchk_none rfl | simp only [go_sem, *]
           · rfl
           · exact Go.Proofs.Try.call54
           · simp only [go_sem, List.length_map, encT, *]; with_reducible rfl
           · simp only [go_sem, *]
           · (with_reducible apply c_laws_toTerm) <;> assumption
           · simp only [go_sem]; with_reducible rfl)
        | (with_reducible apply al_snap (f := 54)
           · first | exact gchk_none rfl | simp only [go_sem, *]
           · rfl
           · exact Go.Proofs.Try.call54
           · simp only [go_sem, List.length_map, encT, *]; with_reducible rfl
           · simp only [go_sem, List.length_map, encT, *]; with_reducible rfl
           · (with_reducible apply c_laws_toTerm) <;> assumption
           · simp only [go_sem, *]
           · simp only [go_sem]; with_reducible rfl)
        | (with_reducible apply al_make hT
           · first | exact gchk_none rfl | simp only [go_sem, *]
           · rfl
           · simp only [go_sem]; with_reducible rfl
           · simp only [go_sem]; with_reducible rfl
           · simp only [go_sem]
           · simp only [go_sem, List.length_map, encT, *]; with_reducible rfl
           · simp only [go_sem, List.length_map, encT, *]; with_reducible rfl
           · exact Nat.le_refl _
           · simp only [go_sem]
           · simp only [go_sem]; omega
           · unfold maxLen; omega
           · simp only [go_sem]; with_reducible rfl)
        | (with_reducible apply al_s hT true
           · first | exact gchk_none rfl | simp only [go_sem, *]
           · simp only [go_sem, List.length_map, encT, *]; first | done | with_reducible rfl)
        | (with_reducible apply al_q hT
           · first | exact gchk_none rfl | simp only [go_sem, *]
           · simp only [go_sem, List.length_map, encT, *]; first | done | with_reducible rfl
           · simp only [go_sem]; with_reducible rfl)
        | (with_reducible apply al_skip
           · simp only [go_sem, *]
           · simp only [go_sem]; with_reducible rfl)
        | ((with_reducible first | apply al_caseT rfl | apply al_caseF rfl)
           · simp only [go_sem, *]; with_reducible rfl
           · simp only [go_sem]; with_reducible rfl
           all_goals (intro h; try simp only [Bool.not_eq_true', Bool.not_eq_false'] at h)
           fail_if_success (with_reducible have hh : (true = true ∨ false = false) := by first | exact Or.inl h | exact Or.inr h))
        )
        have hall : fillT f i = f.map encT := fillT_all (by omega)
        have hdt : List.take f.length (List.drop 0 (f.map encT)) = f.map encT := by rw [List.drop_zero, List.take_of_length_le (by simp)]
        (simp only [go_sem, *])
/-- The first i took so much. -/
theorem c_laws_szTermS {s : Nat} (f : List TermV) (left : Int) (hf : f.length < 4611686018427387904) (hs : ∀ t ∈ f, t.text.size < 4611686018427387904) (h0 : 0 ≤ left) (h1 : left ≤ 1048576) : Sound P 11 [.lst false s (f.map encT), .int .i64 left] (.int .i64 (szAll f left)) := by
  have hw : IntKind.i64.wrap (left - f.length) = left - f.length := by rw [wrap_small] <;> omega
  refine sound_body hT Go.Proofs.Try.func11 rfl ?_
  rw [Go.Proofs.Try.results11, Go.Proofs.Try.ntmps11]
  simp only [frame, List.length_cons, List.length_nil, List.replicate, List.cons_append, List.nil_append, Nat.reduceAdd, Nat.reduceSub]
  repeat' (first
  | with_reducible first | refine aw_seq ?_ | refine aw_block ?_ | refine aw_skip ?_ | refine aw_exit ?_
  | with_reducible first | refine aw_ret ?_ | refine thenA_n ?_ | refine thenA_r ?_ | refine thenA_x ?_ | refine blockA_n ?_ | refine blockA_r ?_ | refine blockA_e ?_ | refine blockA_x (by decide) ?_ | refine ends_r ?_ | refine ends_n ?_ | refine ends_rM ?_ | refine ends_nM ?_ | refine aw_reg ?_
  | (with_reducible refine aw_any hT ?_ ?_; · decide +kernel)
  | with_reducible refine al_nil ?_
  | (with_reducible apply aw_cond
     · simp only [go_sem, *]; with_reducible rfl
     all_goals (intro h; try simp only [Bool.not_eq_true', Bool.not_eq_false', reduceCtorEq] at h))
  | (with_reducible apply al_call (f := 52)
     · first | exact gchk_none rfl | simp only [go_sem, *]
     · rfl
     · exact Go.Proofs.Try.call52
     · simp only [go_sem, List.length_map, *]; with_reducible rfl
     · simp only [go_sem, *]
     · (with_reducible apply c_laws_szTerm) <;> assumption
     · simp only [go_sem]; with_reducible rfl)
  | (with_reducible apply al_snap (f := 52)
     · first | exact gchk_none rfl | simp only [go_sem, *]
     · rfl
     · exact Go.Proofs.Try.call52
     · simp only [go_sem, List.length_map, *]; with_reducible rfl
     · simp only [go_sem, List.length_map, *]; with_reducible rfl
     · (with_reducible apply c_laws_szTerm) <;> assumption
     · simp only [go_sem, *]
     · simp only [go_sem]; with_reducible rfl)
  | (with_reducible apply al_s hT true
     · first | exact gchk_none rfl | simp only [go_sem, *]
     · simp only [go_sem, List.length_map, *]; first | done | with_reducible rfl)
  | (with_reducible apply al_q hT
     · first | exact gchk_none rfl | simp only [go_sem, *]
     · simp only [go_sem, List.length_map, *]; first | done | with_reducible rfl
     · simp only [go_sem]; with_reducible rfl)
  | (with_reducible apply al_skip
     · simp only [go_sem, *]
     · simp only [go_sem]; with_reducible rfl)
  | ((with_reducible first | apply al_caseT rfl | apply al_caseF rfl)
     · simp only [go_sem, *]; with_reducible rfl
     · simp only [go_sem]; with_reducible rfl
     all_goals (intro h; try simp only [Bool.not_eq_true', Bool.not_eq_false'] at h)
     fail_if_success (with_reducible have hh : (true = true ∨ false = false) := by first | exact Or.inl h | exact Or.inr h))
  )
  · (simp only [go_sem, *])
    first | done | simp_all [szAll]
  · have h0' : 0 ≤ left - f.length := by simpa using h
    clear h
    refine aw_loop [2, 3, 6, 7, 8, 9, 10, 11, 12, 13, 14, 15, 16, 17, 18, 19, 20, 21, 22, 23, 24, 25, 26] (fun n S => ∃ (i : Nat) (l : Int), n = f.length - i ∧ i ≤ f.length ∧ 0 ≤ l ∧ l ≤ 1048576 ∧ szTs (f.drop i) l = szAll f left ∧ S = [.lst false s (f.map encT), .int .i64 l, .undef, .undef, .int .i64 0, .int .i64 i, .undef, .undef, .undef, .undef, .undef, .undef, .undef, .undef, .undef, .undef, .undef, .undef, .undef, .undef, .undef, .undef, .undef, .undef, .undef, .undef, .undef]) f.length ?_ ?_
    · refine ⟨0, left - f.length, by simp, by omega, h0', by omega, by simp [szAll]; omega, ?_⟩
      simp only [clr, go_sem]
      first | done | rfl
    · rintro n S ⟨i, l, hn, hi, hl0, hl1, hz, rfl⟩
      have hwi : IntKind.i64.wrap ((i : Int) + 1) = ((i + 1 : Nat) : Int) := by rw [wrap_small] <;> omega
      by_cases hlt : i < f.length
      · have hd : decide ((i : Int) < (f.length : Int)) = true := by simp [hlt]
        obtain ⟨t, hti⟩ : ∃ t, f[i]? = some t := ⟨f[i], by simp [hlt]⟩
        have hst : t.text.size < 4611686018427387904 := hs t (List.mem_of_getElem? hti)
        clear hs
        have hdr : f.drop i = t :: f.drop (i + 1) := by
          rw [List.drop_eq_getElem_cons hlt]; congr 1; simpa [hlt] using hti
        rw [hdr] at hz
        simp only [szTs] at hz
        have hszl : szT t l ≤ 1048576 := by unfold szT; split <;> omega
        have hszT : szT ⟨t.op, t.num, t.text⟩ l = szT t l := rfl
        by_cases hneg : szT t l < 0
        · have hg : decide (szT t l < 0) = true := by simp [hneg]
          repeat' (first
          | with_reducible first | refine aw_seq ?_ | refine aw_block ?_ | refine aw_skip ?_ | refine aw_exit ?_
          | with_reducible first | refine aw_ret ?_ | refine thenA_n ?_ | refine thenA_r ?_ | refine thenA_x ?_ | refine blockA_n ?_ | refine blockA_r ?_ | refine blockA_e ?_ | refine blockA_x (by decide) ?_ | refine ends_r ?_ | refine ends_n ?_ | refine ends_rM ?_ | refine ends_nM ?_ | refine aw_reg ?_
          | (with_reducible refine aw_any hT ?_ ?_; · decide +kernel)
          | with_reducible refine al_nil ?_
          | (with_reducible apply aw_cond
             · simp only [go_sem, *]; with_reducible rfl
             all_goals (intro h; try simp only [Bool.not_eq_true', Bool.not_eq_false', reduceCtorEq] at h))
          | (with_reducible apply al_call (f := 52)
             · first | exact gchk_none rfl | simp only [go_sem, *]
             · rfl
             · exact Go.Proofs.Try.call52
             · simp only [go_sem, List.length_map, encT, *]; with_reducible rfl
             · simp only [go_sem, *]
             · (with_reducible apply c_laws_szTerm) <;> assumption
             · simp only [go_sem]; with_reducible rfl)
          | (with_reducible apply al_snap (f := 52)
             · first | exact gchk_none rfl | simp only [go_sem, *]
             · rfl
             · exact Go.Proofs.Try.call52
             · simp only [go_sem, List.length_map, encT, *]; with_reducible rfl
             · simp only [go_sem, List.length_map, encT, *]; with_reducible rfl
             · (with_reducible apply c_laws_szTerm) <;> assumption
             · simp only [go_sem, *]
             · simp only [go_sem]; with_reducible rfl)
          | (with_reducible apply al_s hT true
             · first | exact gchk_none rfl | simp only [go_sem, *]
             · simp only [go_sem, List.length_map, encT, *]; first | done | with_reducible rfl)
          | (with_reducible apply al_q hT
             · first | exact gchk_none rfl | simp only [go_sem, *]
             · simp only [go_sem, List.length_map, encT, *]; first | done | with_reducible rfl
             · simp only [go_sem]; with_reducible rfl)
          | (with_reducible apply al_skip
             · simp only [go_sem, *]
             · simp only [go_sem]; with_reducible rfl)
          | ((with_reducible first | apply al_caseT rfl | apply al_caseF rfl)
             · simp only [go_sem, *]; with_reducible rfl
             · simp only [go_sem]; with_reducible rfl
             all_goals (intro h; try simp only [Bool.not_eq_true', Bool.not_eq_false'] at h)
             fail_if_success (with_reducible have hh : (true = true ∨ false = false) := by first | exact Or.inl h | exact Or.inr h))
          )
          (simp only [go_sem, *])
          rw [if_pos hneg] at hz
          rw [← hz]
        · have hg : decide (szT t l < 0) = false := by simp; omega
          repeat' (first
          | with_reducible first | refine aw_seq ?_ | refine aw_block ?_ | refine aw_skip ?_ | refine aw_exit ?_
          | with_reducible first | refine aw_ret ?_ | refine thenA_n ?_ | refine thenA_r ?_ | refine thenA_x ?_ | refine blockA_n ?_ | refine blockA_r ?_ | refine blockA_e ?_ | refine blockA_x (by decide) ?_ | refine ends_r ?_ | refine ends_n ?_ | refine ends_rM ?_ | refine ends_nM ?_ | refine aw_reg ?_
          | (with_reducible refine aw_any hT ?_ ?_; · decide +kernel)
          | with_reducible refine al_nil ?_
          | (with_reducible apply aw_cond
             · simp only [go_sem, *]; with_reducible rfl
             all_goals (intro h; try simp only [Bool.not_eq_true', Bool.not_eq_false', reduceCtorEq] at h))
          | (with_reducible apply al_call (f := 52)
             · first | exact gchk_none rfl | simp only [go_sem, *]
             · rfl
             · exact Go.Proofs.Try.call52
             · simp only [go_sem, List.length_map, encT, *]; with_reducible rfl
             · simp only [go_sem, *]
             · (with_reducible apply c_laws_szTerm) <;> assumption
             · simp only [go_sem]; with_reducible rfl)
          | (with_reducible apply al_snap (f := 52)
             · first | exact gchk_none rfl | simp only [go_sem, *]
             · rfl
             · exact Go.Proofs.Try.call52
             · simp only [go_sem, List.length_map, encT, *]; with_reducible rfl
             · simp only [go_sem, List.length_map, encT, *]; with_reducible rfl
             · (with_reducible apply c_laws_szTerm) <;> assumption
             · simp only [go_sem, *]
             · simp only [go_sem]; with_reducible rfl)
          | (with_reducible apply al_s hT true
             · first | exact gchk_none rfl | simp only [go_sem, *]
             · simp only [go_sem, List.length_map, encT, *]; first | done | with_reducible rfl)
          | (with_reducible apply al_q hT
             · first | exact gchk_none rfl | simp only [go_sem, *]
             · simp only [go_sem, List.length_map, encT, *]; first | done | with_reducible rfl
             · simp only [go_sem]; with_reducible rfl)
          | (with_reducible apply al_skip
             · simp only [go_sem, *]
             · simp only [go_sem]; with_reducible rfl)
          | ((with_reducible first | apply al_caseT rfl | apply al_caseF rfl)
             · simp only [go_sem, *]; with_reducible rfl
             · simp only [go_sem]; with_reducible rfl
             all_goals (intro h; try simp only [Bool.not_eq_true', Bool.not_eq_false'] at h)
             fail_if_success (with_reducible have hh : (true = true ∨ false = false) := by first | exact Or.inl h | exact Or.inr h))
          )
          rw [if_neg hneg] at hz
          refine ⟨f.length - (i + 1), by omega, i + 1, szT t l, rfl, by omega, by omega, by omega, hz, ?_⟩
          simp only [clr, go_sem]
      · have hd : decide ((i : Int) < (f.length : Int)) = false := by simp; omega
        repeat' (first
        | with_reducible first | refine aw_seq ?_ | refine aw_block ?_ | refine aw_skip ?_ | refine aw_exit ?_
        | with_reducible first | refine aw_ret ?_ | refine thenA_n ?_ | refine thenA_r ?_ | refine thenA_x ?_ | refine blockA_n ?_ | refine blockA_r ?_ | refine blockA_e ?_ | refine blockA_x (by decide) ?_ | refine ends_r ?_ | refine ends_n ?_ | refine ends_rM ?_ | refine ends_nM ?_ | refine aw_reg ?_
        | (with_reducible refine aw_any hT ?_ ?_; · decide +kernel)
        | with_reducible refine al_nil ?_
        | (with_reducible apply aw_cond
           · simp only [go_sem, *]; with_reducible rfl
           all_goals (intro h; try simp only [Bool.not_eq_true', Bool.not_eq_false', reduceCtorEq] at h))
        | (with_reducible apply al_call (f := 52)
           · first | exact gchk_none rfl | simp only [go_sem, *]
           · rfl
           · exact Go.Proofs.Try.call52
           · simp only [go_sem, List.length_map, encT, *]; with_reducible rfl
           · simp only [go_sem, *]
           · (with_reducible apply c_laws_szTerm) <;> assumption
           · simp only [go_sem]; with_reducible rfl)
        | (with_reducible apply al_snap (f := 52)
           · first | exact gchk_none rfl | simp only [go_sem, *]
           · rfl
           · exact Go.Proofs.Try.call52
           · simp only [go_sem, List.length_map, encT, *]; with_reducible rfl
           · simp only [go_sem, List.length_map, encT, *]; with_reducible rfl
           · (with_reducible apply c_laws_szTerm) <;> assumption
           · simp only [go_sem, *]
           · simp only [go_sem]; with_reducible rfl)
        | (with_reducible apply al_s hT true
           · first | exact gchk_none rfl | simp only [go_sem, *]
           · simp only [go_sem, List.length_map, encT, *]; first | done | with_reducible rfl)
        | (with_reducible apply al_q hT
           · first | exact gchk_none rfl | simp only [go_sem, *]
           · simp only [go_sem, List.length_map, encT, *]; first | done | with_reducible rfl
           · simp only [go_sem]; with_reducible rfl)
        | (with_reducible apply al_skip
           · simp only [go_sem, *]
           · simp only [go_sem]; with_reducible rfl)
        | ((with_reducible first | apply al_caseT rfl | apply al_caseF rfl)
           · simp only [go_sem, *]; with_reducible rfl
           · simp only [go_sem]; with_reducible rfl
           all_goals (intro h; try simp only [Bool.not_eq_true', Bool.not_eq_false'] at h)
           fail_if_success (with_reducible have hh : (true = true ∨ false = false) := by first | exact Or.inl h | exact Or.inr h))
        )
        (simp only [go_sem, *])
        rw [List.drop_of_length_le (by omega)] at hz
        rw [← hz]; rfl
end Go.Proofs.Ytjmodjanaeoiiaa
