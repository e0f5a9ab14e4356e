/- Contracts of the law's helpers: Sub. -/
import Derived.Test.YtjmodjanaeoiiaaFnV
import Derived.Test.YtjmodjanaeoiiaaGlText
import Derived.Test.YtjmodjanaeoiiaaGlTerm
namespace Go.Proofs.Ytjmodjanaeoiiaa
open Go Go.RowKit Go.Bv
set_option linter.unusedSimpArgs false
set_option linter.unusedVariables false
set_option maxRecDepth 4000
set_option maxHeartbeats 1000000
structure SubV where
  id : Int
  start : Int
  cursor : Int
  got : Int
  lost : Int
  passed : Int
  filter : List TermV
def encSub (o : Bool) (x : SubV) : AV := .agg [.int .i64 x.id, .int .i64 x.start, .int .i64 x.cursor, .int .i64 x.got, .int .i64 x.lost, .int .i64 x.passed, .lst o 3 (x.filter.map encT)]
theorem ash_Sub (o : Bool) (x : SubV) : ash (encSub o x) = encSub false x := by simp only [encSub, ash, ashs, ashs_Term]
theorem plA_Sub (o : Bool) (x : SubV) : plA (encSub o x) = true := by simp only [encSub, plA, plAs, Bool.and_self, plAs_Term]
theorem noSh_Sub (x : SubV) : noSh (encSub true x) = true := by simp only [encSub, noSh, noShs, Bool.and_self, noShs_Term]
attribute [go_sem] ash_Sub plA_Sub noSh_Sub
def wSub (x : SubV) : Nat := wTermS x.filter
def okSub (x : SubV) : Prop := okTermS x.filter
def meSub (x : SubV) (k : Int) : SubV := { id := k, start := k + 1, cursor := k + 1 + 1, got := k + 1 + 1 + 1, lost := k + 1 + 1 + 1 + 1, passed := k + 1 + 1 + 1 + 1 + 1, filter := mkTermS x.filter (k + 1 + 1 + 1 + 1 + 1 + 1) }
def mwSub (x : SubV) : Nat := 6 + mwTermS x.filter
theorem mw10Sub (x : SubV) : mwSub x ≤ 10 * (1 + wSub x) := by
  have := mw10TermS x.filter
  simp only [mwSub, wSub]; omega
def mtSub (x : SubV) (k : Int) : SubV := { x with filter := mkTermS x.filter (k) }
def mtSubW (x : SubV) : Nat := mwTermS x.filter
theorem mt10Sub (x : SubV) : mtSubW x ≤ 10 * wSub x := by
  have := mw10TermS x.filter
  simp only [mtSubW, wSub]; omega
def wSubS (f : List SubV) : Nat := f.length + sumL wSub f
def okSubS (f : List SubV) : Prop := f.length < 4611686018427387904 ∧ ∀ x ∈ f, okSub x
def mkSubS (f : List SubV) (k : Int) : List SubV := mkL meSub mwSub f k
def mwSubS (f : List SubV) : Nat := sumL mwSub f
theorem mw10SubS (f : List SubV) : mwSubS f ≤ 10 * wSubS f := sum10 mw10Sub f
theorem ashs_Sub (o : Bool) (f : List SubV) : ashs (f.map (encSub o)) = f.map (encSub false) := ashs_map (g := (encSub o)) (h := (encSub false)) (fun x => ash_Sub o x) f
theorem plAs_Sub (o : Bool) (f : List SubV) : plAs (f.map (encSub o)) = true := plAs_map (g := (encSub o)) (fun x => plA_Sub o x) f
theorem alen_Sub (o : Bool) (f : List SubV) : ((f.map (encSub o)).all fun u => alen u == 7) = true := alen_map (g := (encSub o)) (fun x => rfl) f
theorem noShs_Sub (f : List SubV) : noShs (f.map (encSub true)) = true := noShs_map (g := (encSub true)) (fun x => noSh_Sub x) f
attribute [go_sem] ashs_Sub plAs_Sub alen_Sub noShs_Sub
def zeroSub : AV := .agg [.int .i64 0, .int .i64 0, .int .i64 0, .int .i64 0, .int .i64 0, .int .i64 0, .lst true 3 []]
theorem c_laws_eqSub (x : SubV) {u v : AV} (hu : u = encSub false x) (hv : v = encSub false x) (hw : wSub x ≤ 4194304) : Sound P 110 [u, v] (.bool true) := by
  subst hu hv
  have hw6 : wTermS x.filter ≤ 4194304 := by simp only [wSub] at hw; omega
  clear hw
  refine sound_body hT Go.Proofs.Try.func110 rfl ?_
  rw [Go.Proofs.Try.results110, Go.Proofs.Try.ntmps110]
  simp only [frame, List.length_cons, List.length_nil, List.replicate, List.cons_append, List.nil_append, Nat.reduceAdd, Nat.reduceSub]
  repeat' (first
  | with_reducible first | refine aw_seq ?_ | refine aw_block ?_ | refine aw_skip ?_ | refine aw_exit ?_
  | with_reducible first | refine aw_ret ?_ | refine thenA_n ?_ | refine thenA_r ?_ | refine thenA_x ?_ | refine blockA_n ?_ | refine blockA_r ?_ | refine blockA_e ?_ | refine blockA_x (by decide) ?_ | refine ends_r ?_ | refine ends_n ?_ | refine ends_rM ?_ | refine ends_nM ?_ | refine aw_reg ?_
  | (with_reducible refine aw_any hT ?_ ?_; · decide +kernel)
  | with_reducible refine al_nil ?_
  | (with_reducible apply aw_cond
     · simp only [go_sem, *]; with_reducible rfl
     all_goals (intro h; try simp only [Bool.not_eq_true', Bool.not_eq_false', reduceCtorEq] at h))
  | (with_reducible apply al_call (f := 15)
     · first | exact gchk_none rfl | simp only [go_sem, *]
     · rfl
     · exact Go.Proofs.Try.call15
     · simp only [go_sem, encSub, *]; with_reducible rfl
     · simp only [go_sem, *]
     · (with_reducible apply c_laws_eqTermS) <;> first | assumption | rfl
     · simp only [go_sem]; with_reducible rfl)
  | (with_reducible apply al_snap (f := 15)
     · first | exact gchk_none rfl | simp only [go_sem, *]
     · rfl
     · exact Go.Proofs.Try.call15
     · simp only [go_sem, encSub, *]; with_reducible rfl
     · simp only [go_sem, encSub, *]; with_reducible rfl
     · (with_reducible apply c_laws_eqTermS) <;> first | assumption | rfl
     · simp only [go_sem, *]
     · simp only [go_sem]; with_reducible rfl)
  | (with_reducible apply al_s hT true
     · first | exact gchk_none rfl | simp only [go_sem, *]
     · simp only [go_sem, encSub, *]; first | done | with_reducible rfl)
  | (with_reducible apply al_q hT
     · first | exact gchk_none rfl | simp only [go_sem, *]
     · simp only [go_sem, encSub, *]; first | done | with_reducible rfl
     · simp only [go_sem]; with_reducible rfl)
  | (with_reducible apply al_skip
     · simp only [go_sem, *]
     · simp only [go_sem]; with_reducible rfl)
  | ((with_reducible first | apply al_caseT rfl | apply al_caseF rfl)
     · simp only [go_sem, *]; with_reducible rfl
     · simp only [go_sem]; with_reducible rfl
     all_goals (intro h; try simp only [Bool.not_eq_true', Bool.not_eq_false'] at h)
     fail_if_success (with_reducible have hh : (true = true ∨ false = false) := by first | exact Or.inl h | exact Or.inr h))
  )
  all_goals (simp only [go_sem, *])
theorem c_laws_eqSubS (f : List SubV) (hw : wSubS f ≤ 4194304) : Sound P 64 [.lst false 7 (f.map (encSub false)), .lst false 7 (f.map (encSub false))] (.bool true) := by
  have hl : f.length ≤ 4194304 := Nat.le_trans (Nat.le_add_right _ _) hw
  refine sound_body hT Go.Proofs.Try.func64 rfl ?_
  rw [Go.Proofs.Try.results64, Go.Proofs.Try.ntmps64]
  simp only [frame, List.length_cons, List.length_nil, List.replicate, List.cons_append, List.nil_append, Nat.reduceAdd, Nat.reduceSub]
  repeat' (first
  | with_reducible first | refine aw_seq ?_ | refine aw_block ?_ | refine aw_skip ?_ | refine aw_exit ?_
  | with_reducible first | refine aw_ret ?_ | refine thenA_n ?_ | refine thenA_r ?_ | refine thenA_x ?_ | refine blockA_n ?_ | refine blockA_r ?_ | refine blockA_e ?_ | refine blockA_x (by decide) ?_ | refine ends_r ?_ | refine ends_n ?_ | refine ends_rM ?_ | refine ends_nM ?_ | refine aw_reg ?_
  | (with_reducible apply aw_anyW (id := 6) [[], [], [0, 1], [0, 1, 2], [], [], [4, 5], [4, 5, 6], [0, 1, 2, 3, 4, 5, 6, 7], [0, 1, 2, 3, 4, 5, 6, 7, 8]] [[(17, _)], [(18, _)], [(19, _)], [(20, _)], [(21, _)], [(22, _)], [(23, _)], [(24, _)], [(25, _)], [(26, _)]] hT
     · decide +kernel
     · repeat' (first
         | exact steps_nil
         | (with_reducible refine steps_cons (fun D hk hd => ?_) ?_
            · try simp only [go_sem, allT, Option.getD_some] at hd
              simp only [fillW, putIfs, putIf, cond_true, also, Nat.reduceBEq, cond_false, Nat.reduceAdd, hd, hk]
              first
              | exact as_q hT (gchk_none rfl) (by simp only [go_sem, *]; with_reducible rfl) (by simp only [go_sem]; with_reducible rfl)
              | exact as_call (f := 110) (gchk_none rfl) rfl Go.Proofs.Try.call110 (by simp only [go_sem, *]; with_reducible rfl) (by simp only [go_sem, *]) (by (with_reducible apply c_laws_eqSub) <;> first | assumption | rfl) (by simp only [go_sem]; with_reducible rfl)
              | exact as_s hT true (gchk_none rfl) (by simp only [go_sem, *]; with_reducible rfl)))
     · rfl
     simp only [fillW, putIfs, putIf, cond_true])
  | (with_reducible refine aw_any hT ?_ ?_; · decide +kernel)
  | with_reducible refine al_nil ?_
  | (with_reducible apply aw_cond
     · simp only [go_sem, *]; with_reducible rfl
     all_goals (intro h; try simp only [Bool.not_eq_true', Bool.not_eq_false', reduceCtorEq] at h))
  | (with_reducible apply al_call (f := 110)
     · first | exact gchk_none rfl | simp only [go_sem, *]
     · rfl
     · exact Go.Proofs.Try.call110
     · simp only [go_sem, *]; with_reducible rfl
     · simp only [go_sem, *]
     · (with_reducible apply c_laws_eqSub) <;> first | assumption | rfl
     · simp only [go_sem]; with_reducible rfl)
  | (with_reducible apply al_snap (f := 110)
     · first | exact gchk_none rfl | simp only [go_sem, *]
     · rfl
     · exact Go.Proofs.Try.call110
     · simp only [go_sem, *]; with_reducible rfl
     · simp only [go_sem, *]; with_reducible rfl
     · (with_reducible apply c_laws_eqSub) <;> first | assumption | rfl
     · simp only [go_sem, *]
     · simp only [go_sem]; with_reducible rfl)
  | (with_reducible apply al_s hT true
     · first | exact gchk_none rfl | simp only [go_sem, *]
     · simp only [go_sem, *]; first | done | with_reducible rfl)
  | (with_reducible apply al_q hT
     · first | exact gchk_none rfl | simp only [go_sem, *]
     · simp only [go_sem, *]; first | done | with_reducible rfl
     · simp only [go_sem]; with_reducible rfl)
  | (with_reducible apply al_skip
     · simp only [go_sem, *]
     · simp only [go_sem]; with_reducible rfl)
  | ((with_reducible first | apply al_caseT rfl | apply al_caseF rfl)
     · simp only [go_sem, *]; with_reducible rfl
     · simp only [go_sem]; with_reducible rfl
     all_goals (intro h; try simp only [Bool.not_eq_true', Bool.not_eq_false'] at h)
     fail_if_success (with_reducible have hh : (true = true ∨ false = false) := by first | exact Or.inl h | exact Or.inr h))
  )
  refine aw_loop [2, 3, 6, 7, 8, 9, 10, 11, 12, 13, 14, 15, 16, 17, 18, 19, 20, 21, 22, 23, 24, 25, 26] (fun n S => ∃ i : Nat, n = f.length - i ∧ i ≤ f.length ∧ S = [.lst false 7 (f.map (encSub false)), .lst false 7 (f.map (encSub false)), .undef, .undef, .bool false, .int .i64 i, .undef, .undef, .undef, .undef, .undef, .undef, .undef, .undef, .undef, .undef, .undef, .undef, .undef, .undef, .undef, .undef, .undef, .undef, .undef, .undef, .undef]) f.length ?_ ?_
  · refine ⟨0, by simp, by omega, ?_⟩
    simp only [clr, go_sem]
    first | done | rfl
  · rintro n S ⟨i, hn, hi, rfl⟩
    have hwi : IntKind.i64.wrap ((i : Int) + 1) = ((i + 1 : Nat) : Int) := by rw [wrap_small] <;> omega
    by_cases hlt : i < f.length
    · have hd : decide ((i : Int) < (f.length : Int)) = true := by simp [hlt]
      obtain ⟨x, hx⟩ : ∃ x, f[i]? = some x := ⟨f[i], by simp [hlt]⟩
      have hwx : wSub x ≤ 4194304 := w_le wSub hx hw
      clear hw
      repeat' (first
      | with_reducible first | refine aw_seq ?_ | refine aw_block ?_ | refine aw_skip ?_ | refine aw_exit ?_
      | with_reducible first | refine aw_ret ?_ | refine thenA_n ?_ | refine thenA_r ?_ | refine thenA_x ?_ | refine blockA_n ?_ | refine blockA_r ?_ | refine blockA_e ?_ | refine blockA_x (by decide) ?_ | refine ends_r ?_ | refine ends_n ?_ | refine ends_rM ?_ | refine ends_nM ?_ | refine aw_reg ?_
      | (with_reducible apply aw_anyW (id := 6) [[], [], [0, 1], [0, 1, 2], [], [], [4, 5], [4, 5, 6], [0, 1, 2, 3, 4, 5, 6, 7], [0, 1, 2, 3, 4, 5, 6, 7, 8]] [[(17, _)], [(18, _)], [(19, _)], [(20, _)], [(21, _)], [(22, _)], [(23, _)], [(24, _)], [(25, _)], [(26, _)]] hT
         · decide +kernel
         · repeat' (first
             | exact steps_nil
             | (with_reducible refine steps_cons (fun D hk hd => ?_) ?_
                · try simp only [go_sem, allT, Option.getD_some] at hd
                  simp only [fillW, putIfs, putIf, cond_true, also, Nat.reduceBEq, cond_false, Nat.reduceAdd, hd, hk]
                  first
                  | exact as_q hT (gchk_none rfl) (by simp only [go_sem, encSub, *]; with_reducible rfl) (by simp only [go_sem]; with_reducible rfl)
                  | exact as_call (f := 110) (gchk_none rfl) rfl Go.Proofs.Try.call110 (by simp only [go_sem, encSub, *]; with_reducible rfl) (by simp only [go_sem, *]) (by (with_reducible apply c_laws_eqSub) <;> first | assumption | rfl) (by simp only [go_sem]; with_reducible rfl)
                  | exact as_s hT true (gchk_none rfl) (by simp only [go_sem, encSub, *]; with_reducible rfl)))
         · rfl
         simp only [fillW, putIfs, putIf, cond_true])
      | (with_reducible refine aw_any hT ?_ ?_; · decide +kernel)
      | with_reducible refine al_nil ?_
      | (with_reducible apply aw_cond
         · simp only [go_sem, *]; with_reducible rfl
         all_goals (intro h; try simp only [Bool.not_eq_true', Bool.not_eq_false', reduceCtorEq] at h))
      | (with_reducible apply al_call (f := 110)
         · first | exact gchk_none rfl | simp only [go_sem, *]
         · rfl
         · exact Go.Proofs.Try.call110
         · simp only [go_sem, encSub, *]; with_reducible rfl
         · simp only [go_sem, *]
         · (with_reducible apply c_laws_eqSub) <;> first | assumption | rfl
         · simp only [go_sem]; with_reducible rfl)
      | (with_reducible apply al_snap (f := 110)
         · first | exact gchk_none rfl | simp only [go_sem, *]
         · rfl
         · exact Go.Proofs.Try.call110
         · simp only [go_sem, encSub, *]; with_reducible rfl
         · simp only [go_sem, encSub, *]; with_reducible rfl
         · (with_reducible apply c_laws_eqSub) <;> first | assumption | rfl
         · simp only [go_sem, *]
         · simp only [go_sem]; with_reducible rfl)
      | (with_reducible apply al_s hT true
         · first | exact gchk_none rfl | simp only [go_sem, *]
         · simp only [go_sem, encSub, *]; first | done | with_reducible rfl)
      | (with_reducible apply al_q hT
         · first | exact gchk_none rfl | simp only [go_sem, *]
         · simp only [go_sem, encSub, *]; first | done | with_reducible rfl
         · simp only [go_sem]; with_reducible rfl)
      | (with_reducible apply al_skip
         · simp only [go_sem, *]
         · simp only [go_sem]; with_reducible rfl)
      | ((with_reducible first | apply al_caseT rfl | apply al_caseF rfl)
         · simp only [go_sem, *]; with_reducible rfl
         · simp only [go_sem]; with_reducible rfl
         all_goals (intro h; try simp only [Bool.not_eq_true', Bool.not_eq_false'] at h)
         fail_if_success (with_reducible have hh : (true = true ∨ false = false) := by first | exact Or.inl h | exact Or.inr h))
      )
      refine ⟨f.length - (i + 1), by omega, i + 1, rfl, by omega, ?_⟩
      simp only [clr, go_sem]
    · have hd : decide ((i : Int) < (f.length : Int)) = false := by simp; omega
      repeat' (first
      | with_reducible first | refine aw_seq ?_ | refine aw_block ?_ | refine aw_skip ?_ | refine aw_exit ?_
      | with_reducible first | refine aw_ret ?_ | refine thenA_n ?_ | refine thenA_r ?_ | refine thenA_x ?_ | refine blockA_n ?_ | refine blockA_r ?_ | refine blockA_e ?_ | refine blockA_x (by decide) ?_ | refine ends_r ?_ | refine ends_n ?_ | refine ends_rM ?_ | refine ends_nM ?_ | refine aw_reg ?_
      | (with_reducible apply aw_anyW (id := 6) [[], [], [0, 1], [0, 1, 2], [], [], [4, 5], [4, 5, 6], [0, 1, 2, 3, 4, 5, 6, 7], [0, 1, 2, 3, 4, 5, 6, 7, 8]] [[(17, _)], [(18, _)], [(19, _)], [(20, _)], [(21, _)], [(22, _)], [(23, _)], [(24, _)], [(25, _)], [(26, _)]] hT
         · decide +kernel
         · repeat' (first
             | exact steps_nil
             | (with_reducible refine steps_cons (fun D hk hd => ?_) ?_
                · try simp only [go_sem, allT, Option.getD_some] at hd
                  simp only [fillW, putIfs, putIf, cond_true, also, Nat.reduceBEq, cond_false, Nat.reduceAdd, hd, hk]
                  first
                  | exact as_q hT (gchk_none rfl) (by simp only [go_sem, *]; with_reducible rfl) (by simp only [go_sem]; with_reducible rfl)
                  | exact as_call (f := 110) (gchk_none rfl) rfl Go.Proofs.Try.call110 (by simp only [go_sem, *]; with_reducible rfl) (by simp only [go_sem, *]) (by (with_reducible apply c_laws_eqSub) <;> first | assumption | rfl) (by simp only [go_sem]; with_reducible rfl)
                  | exact as_s hT true (gchk_none rfl) (by simp only [go_sem, *]; with_reducible rfl)))
         · rfl
         simp only [fillW, putIfs, putIf, cond_true])
      | (with_reducible refine aw_any hT ?_ ?_; · decide +kernel)
      | with_reducible refine al_nil ?_
      | (with_reducible apply aw_cond
         · simp only [go_sem, *]; with_reducible rfl
         all_goals (intro h; try simp only [Bool.not_eq_true', Bool.not_eq_false', reduceCtorEq] at h))
      | (with_reducible apply al_call (f := 110)
         · first | exact gchk_none rfl | simp only [go_sem, *]
         · rfl
         · exact Go.Proofs.Try.call110
         · simp only [go_sem, *]; with_reducible rfl
         · simp only [go_sem, *]
         · (with_reducible apply c_laws_eqSub) <;> first | assumption | rfl
         · simp only [go_sem]; with_reducible rfl)
      | (with_reducible apply al_snap (f := 110)
         · first | exact gchk_none rfl | simp only [go_sem, *]
         · rfl
         · exact Go.Proofs.Try.call110
         · simp only [go_sem, *]; with_reducible rfl
         · simp only [go_sem, *]; with_reducible rfl
         · (with_reducible apply c_laws_eqSub) <;> first | assumption | rfl
         · simp only [go_sem, *]
         · simp only [go_sem]; with_reducible rfl)
      | (with_reducible apply al_s hT true
         · first | exact gchk_none rfl | simp only [go_sem, *]
         · simp only [go_sem, *]; first | done | with_reducible rfl)
      | (with_reducible apply al_q hT
         · first | exact gchk_none rfl | simp only [go_sem, *]
         · simp only [go_sem, *]; first | done | with_reducible rfl
         · simp only [go_sem]; with_reducible rfl)
      | (with_reducible apply al_skip
         · simp only [go_sem, *]
         · simp only [go_sem]; with_reducible rfl)
      | ((with_reducible first | apply al_caseT rfl | apply al_caseF rfl)
         · simp only [go_sem, *]; with_reducible rfl
         · simp only [go_sem]; with_reducible rfl
         all_goals (intro h; try simp only [Bool.not_eq_true', Bool.not_eq_false'] at h)
         fail_if_success (with_reducible have hh : (true = true ∨ false = false) := by first | exact Or.inl h | exact Or.inr h))
      )
      all_goals (simp only [go_sem, *])
-- LENT m_laws_markSubS 0
theorem m_laws_markSubS (f : List SubV) (k : Int) (hw : wSubS f ≤ 4194304) (h0 : 0 ≤ k) (h1 : k + (mwSubS f : Nat) ≤ 1099511627776) :
    SoundM P 67 [.lst true 7 (f.map (encSub true)), .int .i64 k] 0 (.int .i64 (k + (mwSubS f : Nat))) (.lst true 7 ((mkSubS f k).map (encSub true))) := by
  have hl : f.length ≤ 4194304 := Nat.le_trans (Nat.le_add_right _ _) hw
  have h10 := mw10SubS f
  refine sound_bodyM hT Go.Proofs.Try.func67 rfl (by decide +kernel) (by simp) ?hpv ?_
  case hpv => simp only [go_sem, *]
  rw [Go.Proofs.Try.results67, Go.Proofs.Try.ntmps67]
  simp only [frame, List.length_cons, List.length_nil, List.replicate, List.cons_append, List.nil_append, Nat.reduceAdd, Nat.reduceSub]
  repeat' (first
  | with_reducible first | refine aw_seq ?_ | refine aw_block ?_ | refine aw_skip ?_ | refine aw_exit ?_
  | with_reducible first | refine aw_ret ?_ | refine thenA_n ?_ | refine thenA_r ?_ | refine thenA_x ?_ | refine blockA_n ?_ | refine blockA_r ?_ | refine blockA_e ?_ | refine blockA_x (by decide) ?_ | refine ends_r ?_ | refine ends_n ?_ | refine ends_rM ?_ | refine ends_nM ?_ | refine aw_reg ?_
  | (with_reducible refine aw_any hT ?_ ?_; · decide +kernel)
  | with_reducible refine al_nil ?_
  | (with_reducible apply aw_cond
     · simp only [go_sem, *]; with_reducible rfl
     all_goals (intro h; try simp only [Bool.not_eq_true', Bool.not_eq_false', reduceCtorEq] at h))
  | (with_reducible apply al_call (f := 18)
     · first | exact gchk_none rfl | simp only [go_sem, *]
     · rfl
     · exact Go.Proofs.Try.call18
     · simp only [go_sem, *]; with_reducible rfl
     · simp only [go_sem, *]
     · (with_reducible apply c_laws_markTermS) <;> first | assumption | rfl
     · simp only [go_sem]; with_reducible rfl)
  | (with_reducible apply al_snap (f := 18)
     · first | exact gchk_none rfl | simp only [go_sem, *]
     · rfl
     · exact Go.Proofs.Try.call18
     · simp only [go_sem, *]; with_reducible rfl
     · simp only [go_sem, *]; with_reducible rfl
     · (with_reducible apply c_laws_markTermS) <;> first | assumption | rfl
     · simp only [go_sem, *]
     · simp only [go_sem]; with_reducible rfl)
  | (with_reducible apply al_lendV (f := 18) 0
     · exact gchk_none rfl
     · rfl
     · exact Go.Proofs.Try.call18
     · simp only [go_sem, *]; with_reducible rfl
     · simp only [go_sem]; with_reducible rfl
     · simp only [go_sem]; with_reducible rfl
     · simp only [go_sem]; with_reducible rfl
     · simp only [go_sem, *]
     · simp only [go_sem, *]; with_reducible rfl
     · simp only [go_sem, *]
     · simp only [go_sem, *]
     · simp only [go_sem, *]
     · simp only [go_sem]
       (with_reducible apply m_laws_markTermS) <;> first | assumption | rfl
     · simp only [go_sem, *]
     · simp only [go_sem]; with_reducible rfl)
  | (with_reducible apply al_s hT true
     · first | exact gchk_none rfl | simp only [go_sem, *]
     · simp only [go_sem, *]; first | done | with_reducible rfl)
  | (with_reducible apply al_q hT
     · first | exact gchk_none rfl | simp only [go_sem, *]
     · simp only [go_sem, *]; first | done | with_reducible rfl
     · simp only [go_sem]; with_reducible rfl)
  | (with_reducible apply al_skip
     · simp only [go_sem, *]
     · simp only [go_sem]; with_reducible rfl)
  | ((with_reducible first | apply al_caseT rfl | apply al_caseF rfl)
     · simp only [go_sem, *]; with_reducible rfl
     · simp only [go_sem]; with_reducible rfl
     all_goals (intro h; try simp only [Bool.not_eq_true', Bool.not_eq_false'] at h)
     fail_if_success (with_reducible have hh : (true = true ∨ false = false) := by first | exact Or.inl h | exact Or.inr h))
  )
  refine aw_loop [2, 3, 6, 7, 8, 9, 10, 11, 12, 13, 14, 15, 16, 17, 18, 19, 20, 21, 22, 23, 24, 25, 26, 27, 28, 29, 30, 31, 32, 33, 34, 35, 36, 37, 38, 39, 40, 41, 42, 43, 44, 45, 46, 47, 48, 49, 50, 51, 52, 53, 54, 55, 56, 57, 58, 59, 60, 61] (fun n S => ∃ i : Nat, n = f.length - i ∧ i ≤ f.length ∧ S = [.lst true 7 ((mkI meSub mwSub f i k).map (encSub true)), .int .i64 (k + (sumL mwSub (f.take i) : Nat)), .undef, .undef, .int .i64 0, .int .i64 i, .undef, .undef, .undef, .undef, .undef, .undef, .undef, .undef, .undef, .undef, .undef, .undef, .undef, .undef, .undef, .undef, .undef, .undef, .undef, .undef, .undef, .undef, .undef, .undef, .undef, .undef, .undef, .undef, .undef, .undef, .undef, .undef, .undef, .undef, .undef, .undef, .undef, .undef, .undef, .undef, .undef, .undef, .undef, .undef, .undef, .undef, .undef, .undef, .undef, .undef, .undef, .undef, .undef, .undef, .undef, .undef]) f.length ?_ ?_
  · refine ⟨0, by simp, by omega, ?_⟩
    simp only [clr, go_sem]
    first | done | simp [mkI_zero, sumL]
  · rintro n S ⟨i, hn, hi, rfl⟩
    have hwi : IntKind.i64.wrap ((i : Int) + 1) = ((i + 1 : Nat) : Int) := by rw [wrap_small] <;> omega
    by_cases hlt : i < f.length
    · have hd : (i : Int) < (f.length : Int) := by omega
      obtain ⟨x, hx⟩ : ∃ x, f[i]? = some x := ⟨f[i], by simp [hlt]⟩
      have hwx : wSub x ≤ 4194304 := w_le wSub hx hw
      have hs := sumL_succ mwSub hx
      have hle := sumL_le mwSub f (i + 1)
      simp only [mwSubS] at h10 h1
      have hlen : ((mkI meSub mwSub f i k).map (encSub true)).length = f.length := by rw [List.length_map, mkI_len]
      have hat : ((mkI meSub mwSub f i k).map (encSub true))[i]? = some (.agg [.int .i64 x.id, .int .i64 x.start, .int .i64 x.cursor, .int .i64 x.got, .int .i64 x.lost, .int .i64 x.passed, .lst true 3 (x.filter.map encT)]) := by rw [List.getElem?_map, mkI_at _ _ hx]; rfl
      have hset : ((mkI meSub mwSub f i k).map (encSub true)).set i ((encSub true) (meSub x (k + (sumL mwSub (f.take i) : Nat)))) = (mkI meSub mwSub f (i + 1) k).map (encSub true) := by rw [← List.map_set, mkI_set _ _ hx]
      have hil : i < ((mkI meSub mwSub f i k).map (encSub true)).length := by omega
      have s1 : ∀ v, (((mkI meSub mwSub f i k).map (encSub true)).set i v)[i]? = some v := fun v => List.getElem?_set_self hil
      have hpM : plAs ((mkI meSub mwSub f i k).map (encSub true)) = true := plAs_Sub true _
      generalize (mkI meSub mwSub f i k).map (encSub true) = M at *
      obtain ⟨k0, hk0⟩ : ∃ k0 : Int, k0 = k + (sumL mwSub (f.take i) : Nat) := ⟨_, rfl⟩
      rw [← hk0] at hset ⊢
      obtain ⟨k1, hk1⟩ : ∃ k1 : Int, k1 = k0 + 1 := ⟨_, rfl⟩
      obtain ⟨k2, hk2⟩ : ∃ k2 : Int, k2 = k1 + 1 := ⟨_, rfl⟩
      obtain ⟨k3, hk3⟩ : ∃ k3 : Int, k3 = k2 + 1 := ⟨_, rfl⟩
      obtain ⟨k4, hk4⟩ : ∃ k4 : Int, k4 = k3 + 1 := ⟨_, rfl⟩
      obtain ⟨k5, hk5⟩ : ∃ k5 : Int, k5 = k4 + 1 := ⟨_, rfl⟩
      obtain ⟨k6, hk6⟩ : ∃ k6 : Int, k6 = k5 + 1 := ⟨_, rfl⟩
      obtain ⟨k7, hk7⟩ : ∃ k7 : Int, k7 = k6 + (mwTermS x.filter : Nat) := ⟨_, rfl⟩
      have hend : k + (sumL mwSub (f.take (i + 1)) : Nat) = k7 := by rw [hs]; simp only [mwSub]; omega
      have hk1b : k7 ≤ 1099511627776 := by omega
      have hwk1 : IntKind.i64.wrap (k0 + 1) = k1 := by rw [wrap_small] <;> omega
      have hwk2 : IntKind.i64.wrap (k1 + 1) = k2 := by rw [wrap_small] <;> omega
      have hwk3 : IntKind.i64.wrap (k2 + 1) = k3 := by rw [wrap_small] <;> omega
      have hwk4 : IntKind.i64.wrap (k3 + 1) = k4 := by rw [wrap_small] <;> omega
      have hwk5 : IntKind.i64.wrap (k4 + 1) = k5 := by rw [wrap_small] <;> omega
      have hwk6 : IntKind.i64.wrap (k5 + 1) = k6 := by rw [wrap_small] <;> omega
      have hwk7 : k6 + (mwTermS x.filter : Nat) = k7 := hk7.symm
      have hnk7 : 0 ≤ k6 := by omega
      have hck7 : k6 + (mwTermS x.filter : Nat) ≤ 1099511627776 := by omega
      have hyk7 : wTermS x.filter ≤ 4194304 := by simp only [wSub] at hwx; omega
      have hset2 : M.set i (.agg [.int .i64 k0, .int .i64 k1, .int .i64 k2, .int .i64 k3, .int .i64 k4, .int .i64 k5, .lst true 3 ((mkTermS x.filter k6).map encT)]) = (mkI meSub mwSub f (i + 1) k).map (encSub true) := by
        rw [← hset]; congr 1 <;> (simp only [encSub, meSub]; first | done | (subst_vars; rfl))
      clear hset h10 hw hs hle hk0 hk1 hk2 hk3 hk4 hk5 hk6 hk7
      repeat' (first
      | with_reducible first | refine aw_seq ?_ | refine aw_block ?_ | refine aw_skip ?_ | refine aw_exit ?_
      | with_reducible first | refine aw_ret ?_ | refine thenA_n ?_ | refine thenA_r ?_ | refine thenA_x ?_ | refine blockA_n ?_ | refine blockA_r ?_ | refine blockA_e ?_ | refine blockA_x (by decide) ?_ | refine ends_r ?_ | refine ends_n ?_ | refine ends_rM ?_ | refine ends_nM ?_ | refine aw_reg ?_
      | (with_reducible refine aw_any hT ?_ ?_; · decide +kernel)
      | with_reducible refine al_nil ?_
      | (with_reducible apply aw_cond
         · simp only [go_sem, *]; with_reducible rfl
         all_goals (intro h; try simp only [Bool.not_eq_true', Bool.not_eq_false', reduceCtorEq] at h))
      | (with_reducible apply al_call (f := 18)
         · first | exact gchk_none rfl | simp only [go_sem, *]
         · rfl
         · exact Go.Proofs.Try.call18
         · simp only [go_sem, encSub, List.set_set, *]; with_reducible rfl
         · simp only [go_sem, *]
         · (with_reducible apply c_laws_markTermS) <;> first | assumption | rfl
         · simp only [go_sem]; with_reducible rfl)
      | (with_reducible apply al_snap (f := 18)
         · first | exact gchk_none rfl | simp only [go_sem, *]
         · rfl
         · exact Go.Proofs.Try.call18
         · simp only [go_sem, encSub, List.set_set, *]; with_reducible rfl
         · simp only [go_sem, encSub, List.set_set, *]; with_reducible rfl
         · (with_reducible apply c_laws_markTermS) <;> first | assumption | rfl
         · simp only [go_sem, *]
         · simp only [go_sem]; with_reducible rfl)
      | (with_reducible apply al_lendV (f := 18) 0
         · exact gchk_none rfl
         · rfl
         · exact Go.Proofs.Try.call18
         · simp only [go_sem, encSub, List.set_set, *]; with_reducible rfl
         · simp only [go_sem]; with_reducible rfl
         · simp only [go_sem]; with_reducible rfl
         · simp only [go_sem]; with_reducible rfl
         · simp only [go_sem, *]
         · simp only [go_sem, encSub, List.set_set, *]; with_reducible rfl
         · simp only [go_sem, encSub, List.set_set, *]
         · simp only [go_sem, *]
         · simp only [go_sem, *]
         · simp only [go_sem]
           (with_reducible apply m_laws_markTermS) <;> first | assumption | rfl
         · simp only [go_sem, encSub, List.set_set, *]
         · simp only [go_sem, encSub, List.set_set]; with_reducible rfl)
      | (with_reducible apply al_s hT true
         · first | exact gchk_none rfl | simp only [go_sem, *]
         · simp only [go_sem, encSub, List.set_set, *]; first | done | with_reducible rfl)
      | (with_reducible apply al_q hT
         · first | exact gchk_none rfl | simp only [go_sem, *]
         · simp only [go_sem, encSub, List.set_set, *]; first | done | with_reducible rfl
         · simp only [go_sem]; with_reducible rfl)
      | (with_reducible apply al_skip
         · simp only [go_sem, *]
         · simp only [go_sem]; with_reducible rfl)
      | ((with_reducible first | apply al_caseT rfl | apply al_caseF rfl)
         · simp only [go_sem, *]; with_reducible rfl
         · simp only [go_sem]; with_reducible rfl
         all_goals (intro h; try simp only [Bool.not_eq_true', Bool.not_eq_false'] at h)
         fail_if_success (with_reducible have hh : (true = true ∨ false = false) := by first | exact Or.inl h | exact Or.inr h))
      )
      refine ⟨f.length - (i + 1), by omega, i + 1, rfl, by omega, ?_⟩
      simp only [clr, go_sem, *]
    · have hd : decide ((i : Int) < (f.length : Int)) = false := by simp; omega
      have hall : mkI meSub mwSub f i k = mkSubS f k := mkI_all _ _ (by omega)
      have ht : f.take i = f := List.take_of_length_le (by omega)
      have hlen : (mkSubS f k).length = f.length := mkL_len _ _ _ _
      rw [hall, ht]
      clear hall ht
      repeat' (first
      | with_reducible first | refine aw_seq ?_ | refine aw_block ?_ | refine aw_skip ?_ | refine aw_exit ?_
      | with_reducible first | refine aw_ret ?_ | refine thenA_n ?_ | refine thenA_r ?_ | refine thenA_x ?_ | refine blockA_n ?_ | refine blockA_r ?_ | refine blockA_e ?_ | refine blockA_x (by decide) ?_ | refine ends_r ?_ | refine ends_n ?_ | refine ends_rM ?_ | refine ends_nM ?_ | refine aw_reg ?_
      | (with_reducible refine aw_any hT ?_ ?_; · decide +kernel)
      | with_reducible refine al_nil ?_
      | (with_reducible apply aw_cond
         · simp only [go_sem, *]; with_reducible rfl
         all_goals (intro h; try simp only [Bool.not_eq_true', Bool.not_eq_false', reduceCtorEq] at h))
      | (with_reducible apply al_call (f := 18)
         · first | exact gchk_none rfl | simp only [go_sem, *]
         · rfl
         · exact Go.Proofs.Try.call18
         · simp only [go_sem, *]; with_reducible rfl
         · simp only [go_sem, *]
         · (with_reducible apply c_laws_markTermS) <;> first | assumption | rfl
         · simp only [go_sem]; with_reducible rfl)
      | (with_reducible apply al_snap (f := 18)
         · first | exact gchk_none rfl | simp only [go_sem, *]
         · rfl
         · exact Go.Proofs.Try.call18
         · simp only [go_sem, *]; with_reducible rfl
         · simp only [go_sem, *]; with_reducible rfl
         · (with_reducible apply c_laws_markTermS) <;> first | assumption | rfl
         · simp only [go_sem, *]
         · simp only [go_sem]; with_reducible rfl)
      | (with_reducible apply al_lendV (f := 18) 0
         · exact gchk_none rfl
         · rfl
         · exact Go.Proofs.Try.call18
         · simp only [go_sem, *]; with_reducible rfl
         · simp only [go_sem]; with_reducible rfl
         · simp only [go_sem]; with_reducible rfl
         · simp only [go_sem]; with_reducible rfl
         · simp only [go_sem, *]
         · simp only [go_sem, *]; with_reducible rfl
         · simp only [go_sem, *]
         · simp only [go_sem, *]
         · simp only [go_sem, *]
         · simp only [go_sem]
           (with_reducible apply m_laws_markTermS) <;> first | assumption | rfl
         · simp only [go_sem, *]
         · simp only [go_sem]; with_reducible rfl)
      | (with_reducible apply al_s hT true
         · first | exact gchk_none rfl | simp only [go_sem, *]
         · simp only [go_sem, *]; first | done | with_reducible rfl)
      | (with_reducible apply al_q hT
         · first | exact gchk_none rfl | simp only [go_sem, *]
         · simp only [go_sem, *]; first | done | with_reducible rfl
         · simp only [go_sem]; with_reducible rfl)
      | (with_reducible apply al_skip
         · simp only [go_sem, *]
         · simp only [go_sem]; with_reducible rfl)
      | ((with_reducible first | apply al_caseT rfl | apply al_caseF rfl)
         · simp only [go_sem, *]; with_reducible rfl
         · simp only [go_sem]; with_reducible rfl
         all_goals (intro h; try simp only [Bool.not_eq_true', Bool.not_eq_false'] at h)
         fail_if_success (with_reducible have hh : (true = true ∨ false = false) := by first | exact Or.inl h | exact Or.inr h))
      )
      all_goals ((simp only [go_sem, *]); first | done | rfl)
theorem c_laws_heldSubS (f : List SubV) (k : Int) (hw : wSubS f ≤ 4194304) (h0 : 0 ≤ k) (h1 : k + (mwSubS f : Nat) ≤ 1099511627776) :
    Sound P 70 [.lst false 7 ((mkSubS f k).map (encSub false)), .int .i64 k] (.int .i64 (k + (mwSubS f : Nat))) := by
  have hl : f.length ≤ 4194304 := Nat.le_trans (Nat.le_add_right _ _) hw
  have h10 := mw10SubS f
  have hlen : (mkSubS f k).length = f.length := mkL_len _ _ _ _
  refine sound_body hT Go.Proofs.Try.func70 rfl ?_
  rw [Go.Proofs.Try.results70, Go.Proofs.Try.ntmps70]
  simp only [frame, List.length_cons, List.length_nil, List.replicate, List.cons_append, List.nil_append, Nat.reduceAdd, Nat.reduceSub]
  repeat' (first
  | with_reducible first | refine aw_seq ?_ | refine aw_block ?_ | refine aw_skip ?_ | refine aw_exit ?_
  | with_reducible first | refine aw_ret ?_ | refine thenA_n ?_ | refine thenA_r ?_ | refine thenA_x ?_ | refine blockA_n ?_ | refine blockA_r ?_ | refine blockA_e ?_ | refine blockA_x (by decide) ?_ | refine ends_r ?_ | refine ends_n ?_ | refine ends_rM ?_ | refine ends_nM ?_ | refine aw_reg ?_
  | (with_reducible refine aw_any hT ?_ ?_; · decide +kernel)
  | with_reducible refine al_nil ?_
  | (with_reducible apply aw_cond
     · simp only [go_sem, *]; with_reducible rfl
     all_goals (intro h; try simp only [Bool.not_eq_true', Bool.not_eq_false', reduceCtorEq] at h))
  | (with_reducible apply al_call (f := 19)
     · first | exact gchk_none rfl | simp only [go_sem, *]
     · rfl
     · exact Go.Proofs.Try.call19
     · simp only [go_sem, *]; with_reducible rfl
     · simp only [go_sem, *]
     · (with_reducible apply c_laws_heldTermS) <;> first | assumption | rfl
     · simp only [go_sem]; with_reducible rfl)
  | (with_reducible apply al_snap (f := 19)
     · first | exact gchk_none rfl | simp only [go_sem, *]
     · rfl
     · exact Go.Proofs.Try.call19
     · simp only [go_sem, *]; with_reducible rfl
     · simp only [go_sem, *]; with_reducible rfl
     · (with_reducible apply c_laws_heldTermS) <;> first | assumption | rfl
     · simp only [go_sem, *]
     · simp only [go_sem]; with_reducible rfl)
  | (with_reducible apply al_s hT true
     · first | exact gchk_none rfl | simp only [go_sem, *]
     · simp only [go_sem, *]; first | done | with_reducible rfl)
  | (with_reducible apply al_q hT
     · first | exact gchk_none rfl | simp only [go_sem, *]
     · simp only [go_sem, *]; first | done | with_reducible rfl
     · simp only [go_sem]; with_reducible rfl)
  | (with_reducible apply al_skip
     · simp only [go_sem, *]
     · simp only [go_sem]; with_reducible rfl)
  | ((with_reducible first | apply al_caseT rfl | apply al_caseF rfl)
     · simp only [go_sem, *]; with_reducible rfl
     · simp only [go_sem]; with_reducible rfl
     all_goals (intro h; try simp only [Bool.not_eq_true', Bool.not_eq_false'] at h)
     fail_if_success (with_reducible have hh : (true = true ∨ false = false) := by first | exact Or.inl h | exact Or.inr h))
  )
  refine aw_loop [2, 3, 6, 7, 8, 9, 10, 11, 12, 13, 14, 15, 16, 17, 18, 19, 20, 21, 22, 23, 24, 25, 26, 27, 28, 29, 30, 31, 32, 33, 34, 35, 36, 37, 38, 39, 40, 41, 42, 43, 44, 45, 46, 47, 48, 49, 50, 51, 52, 53, 54, 55, 56, 57, 58, 59, 60, 61, 62, 63, 64, 65, 66, 67, 68, 69, 70, 71, 72, 73, 74, 75] (fun n S => ∃ i : Nat, n = f.length - i ∧ i ≤ f.length ∧ S = [.lst false 7 ((mkSubS f k).map (encSub false)), .int .i64 (k + (sumL mwSub (f.take i) : Nat)), .undef, .undef, .int .i64 0, .int .i64 i, .undef, .undef, .undef, .undef, .undef, .undef, .undef, .undef, .undef, .undef, .undef, .undef, .undef, .undef, .undef, .undef, .undef, .undef, .undef, .undef, .undef, .undef, .undef, .undef, .undef, .undef, .undef, .undef, .undef, .undef, .undef, .undef, .undef, .undef, .undef, .undef, .undef, .undef, .undef, .undef, .undef, .undef, .undef, .undef, .undef, .undef, .undef, .undef, .undef, .undef, .undef, .undef, .undef, .undef, .undef, .undef, .undef, .undef, .undef, .undef, .undef, .undef, .undef, .undef, .undef, .undef, .undef, .undef, .undef, .undef]) f.length ?_ ?_
  · refine ⟨0, by simp, by omega, ?_⟩
    simp only [clr, go_sem]
    first | done | simp [sumL]
  · rintro n S ⟨i, hn, hi, rfl⟩
    have hwi : IntKind.i64.wrap ((i : Int) + 1) = ((i + 1 : Nat) : Int) := by rw [wrap_small] <;> omega
    by_cases hlt : i < f.length
    · have hd : decide ((i : Int) < (f.length : Int)) = true := by simp [hlt]
      obtain ⟨x, hx⟩ : ∃ x, f[i]? = some x := ⟨f[i], by simp [hlt]⟩
      have hwx : wSub x ≤ 4194304 := w_le wSub hx hw
      have hs := sumL_succ mwSub hx
      have hle := sumL_le mwSub f (i + 1)
      simp only [mwSubS] at h10 h1
      have hat : (mkSubS f k)[i]? = some (meSub x (k + (sumL mwSub (f.take i) : Nat))) := mkL_at _ _ hx k
      obtain ⟨k0, hk0⟩ : ∃ k0 : Int, k0 = k + (sumL mwSub (f.take i) : Nat) := ⟨_, rfl⟩
      rw [← hk0] at hat ⊢
      obtain ⟨k1, hk1⟩ : ∃ k1 : Int, k1 = k0 + 1 := ⟨_, rfl⟩
      obtain ⟨k2, hk2⟩ : ∃ k2 : Int, k2 = k1 + 1 := ⟨_, rfl⟩
      obtain ⟨k3, hk3⟩ : ∃ k3 : Int, k3 = k2 + 1 := ⟨_, rfl⟩
      obtain ⟨k4, hk4⟩ : ∃ k4 : Int, k4 = k3 + 1 := ⟨_, rfl⟩
      obtain ⟨k5, hk5⟩ : ∃ k5 : Int, k5 = k4 + 1 := ⟨_, rfl⟩
      obtain ⟨k6, hk6⟩ : ∃ k6 : Int, k6 = k5 + 1 := ⟨_, rfl⟩
      obtain ⟨k7, hk7⟩ : ∃ k7 : Int, k7 = k6 + (mwTermS x.filter : Nat) := ⟨_, rfl⟩
      have hend : k + (sumL mwSub (f.take (i + 1)) : Nat) = k7 := by rw [hs]; simp only [mwSub]; omega
      have hwk1 : IntKind.i64.wrap (k0 + 1) = k1 := by rw [wrap_small] <;> omega
      have hwk2 : IntKind.i64.wrap (k1 + 1) = k2 := by rw [wrap_small] <;> omega
      have hwk3 : IntKind.i64.wrap (k2 + 1) = k3 := by rw [wrap_small] <;> omega
      have hwk4 : IntKind.i64.wrap (k3 + 1) = k4 := by rw [wrap_small] <;> omega
      have hwk5 : IntKind.i64.wrap (k4 + 1) = k5 := by rw [wrap_small] <;> omega
      have hwk6 : IntKind.i64.wrap (k5 + 1) = k6 := by rw [wrap_small] <;> omega
      have hwk7 : k6 + (mwTermS x.filter : Nat) = k7 := hk7.symm
      have hnk7 : 0 ≤ k6 := by omega
      have hck7 : k6 + (mwTermS x.filter : Nat) ≤ 1099511627776 := by omega
      have hgk7 : decide (k7 < 0) = false := by simp; omega
      have hyk7 : wTermS x.filter ≤ 4194304 := by simp only [wSub] at hwx; omega
      have hme : meSub x k0 = { id := k0, start := k1, cursor := k2, got := k3, lost := k4, passed := k5, filter := mkTermS x.filter k6 } := by simp only [meSub]; first | done | (subst_vars; rfl)
      rw [hme] at hat
      clear h10 hw hme hs hle hk0 hk1 hk2 hk3 hk4 hk5 hk6 hk7
      repeat' (first
      | with_reducible first | refine aw_seq ?_ | refine aw_block ?_ | refine aw_skip ?_ | refine aw_exit ?_
      | with_reducible first | refine aw_ret ?_ | refine thenA_n ?_ | refine thenA_r ?_ | refine thenA_x ?_ | refine blockA_n ?_ | refine blockA_r ?_ | refine blockA_e ?_ | refine blockA_x (by decide) ?_ | refine ends_r ?_ | refine ends_n ?_ | refine ends_rM ?_ | refine ends_nM ?_ | refine aw_reg ?_
      | (with_reducible refine aw_any hT ?_ ?_; · decide +kernel)
      | with_reducible refine al_nil ?_
      | (with_reducible apply aw_cond
         · simp only [go_sem, *]; with_reducible rfl
         all_goals (intro h; try simp only [Bool.not_eq_true', Bool.not_eq_false', reduceCtorEq] at h))
      | (with_reducible apply al_call (f := 19)
         · first | exact gchk_none rfl | simp only [go_sem, *]
         · rfl
         · exact Go.Proofs.Try.call19
         · simp only [go_sem, encSub, *]; with_reducible rfl
         · simp only [go_sem, *]
         · (with_reducible apply c_laws_heldTermS) <;> first | assumption | rfl
         · simp only [go_sem]; with_reducible rfl)
      | (with_reducible apply al_snap (f := 19)
         · first | exact gchk_none rfl | simp only [go_sem, *]
         · rfl
         · exact Go.Proofs.Try.call19
         · simp only [go_sem, encSub, *]; with_reducible rfl
         · simp only [go_sem, encSub, *]; with_reducible rfl
         · (with_reducible apply c_laws_heldTermS) <;> first | assumption | rfl
         · simp only [go_sem, *]
         · simp only [go_sem]; with_reducible rfl)
      | (with_reducible apply al_s hT true
         · first | exact gchk_none rfl | simp only [go_sem, *]
         · simp only [go_sem, encSub, *]; first | done | with_reducible rfl)
      | (with_reducible apply al_q hT
         · first | exact gchk_none rfl | simp only [go_sem, *]
         · simp only [go_sem, encSub, *]; first | done | with_reducible rfl
         · simp only [go_sem]; with_reducible rfl)
      | (with_reducible apply al_skip
         · simp only [go_sem, *]
         · simp only [go_sem]; with_reducible rfl)
      | ((with_reducible first | apply al_caseT rfl | apply al_caseF rfl)
         · simp only [go_sem, *]; with_reducible rfl
         · simp only [go_sem]; with_reducible rfl
         all_goals (intro h; try simp only [Bool.not_eq_true', Bool.not_eq_false'] at h)
         fail_if_success (with_reducible have hh : (true = true ∨ false = false) := by first | exact Or.inl h | exact Or.inr h))
      )
      refine ⟨f.length - (i + 1), by omega, i + 1, rfl, by omega, ?_⟩
      simp only [clr, go_sem, *]
    · have hd : decide ((i : Int) < (f.length : Int)) = false := by simp; omega
      have ht : f.take i = f := List.take_of_length_le (by omega)
      rw [ht]
      clear ht
      repeat' (first
      | with_reducible first | refine aw_seq ?_ | refine aw_block ?_ | refine aw_skip ?_ | refine aw_exit ?_
      | with_reducible first | refine aw_ret ?_ | refine thenA_n ?_ | refine thenA_r ?_ | refine thenA_x ?_ | refine blockA_n ?_ | refine blockA_r ?_ | refine blockA_e ?_ | refine blockA_x (by decide) ?_ | refine ends_r ?_ | refine ends_n ?_ | refine ends_rM ?_ | refine ends_nM ?_ | refine aw_reg ?_
      | (with_reducible refine aw_any hT ?_ ?_; · decide +kernel)
      | with_reducible refine al_nil ?_
      | (with_reducible apply aw_cond
         · simp only [go_sem, *]; with_reducible rfl
         all_goals (intro h; try simp only [Bool.not_eq_true', Bool.not_eq_false', reduceCtorEq] at h))
      | (with_reducible apply al_call (f := 19)
         · first | exact gchk_none rfl | simp only [go_sem, *]
         · rfl
         · exact Go.Proofs.Try.call19
         · simp only [go_sem, *]; with_reducible rfl
         · simp only [go_sem, *]
         · (with_reducible apply c_laws_heldTermS) <;> first | assumption | rfl
         · simp only [go_sem]; with_reducible rfl)
      | (with_reducible apply al_snap (f := 19)
         · first | exact gchk_none rfl | simp only [go_sem, *]
         · rfl
         · exact Go.Proofs.Try.call19
         · simp only [go_sem, *]; with_reducible rfl
         · simp only [go_sem, *]; with_reducible rfl
         · (with_reducible apply c_laws_heldTermS) <;> first | assumption | rfl
         · simp only [go_sem, *]
         · simp only [go_sem]; with_reducible rfl)
      | (with_reducible apply al_s hT true
         · first | exact gchk_none rfl | simp only [go_sem, *]
         · simp only [go_sem, *]; first | done | with_reducible rfl)
      | (with_reducible apply al_q hT
         · first | exact gchk_none rfl | simp only [go_sem, *]
         · simp only [go_sem, *]; first | done | with_reducible rfl
         · simp only [go_sem]; with_reducible rfl)
      | (with_reducible apply al_skip
         · simp only [go_sem, *]
         · simp only [go_sem]; with_reducible rfl)
      | ((with_reducible first | apply al_caseT rfl | apply al_caseF rfl)
         · simp only [go_sem, *]; with_reducible rfl
         · simp only [go_sem]; with_reducible rfl
         all_goals (intro h; try simp only [Bool.not_eq_true', Bool.not_eq_false'] at h)
         fail_if_success (with_reducible have hh : (true = true ∨ false = false) := by first | exact Or.inl h | exact Or.inr h))
      )
      all_goals ((simp only [go_sem, *]); first | done | rfl)
end Go.Proofs.Ytjmodjanaeoiiaa
