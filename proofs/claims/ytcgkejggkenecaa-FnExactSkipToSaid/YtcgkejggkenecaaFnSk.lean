/- Contracts: SkipTo, of the program. -/
import Derived.Test.YtcgkejggkenecaaFnTl
import Derived.Test.YtcgkejggkenecaaFnUi
import Derived.Test.YtcgkejggkenecaaBvAt
namespace Go.Proofs.Ytcgkejggkenecaa
open Go Go.RowKit Go.Bv
set_option linter.unusedSimpArgs false
set_option linter.unusedVariables false
set_option maxRecDepth 4000
set_option maxHeartbeats 4000000

def goneI (r : RingV) (number : Int) : Int := if r.sent - r.cap < number then r.sent - r.cap else number
def skipG (r : RingV) (s : SubV) (number : Int) : Int := if 0 > goneI r number - s.cursor then 0 else goneI r number - s.cursor
def skipS (r : RingV) (s : SubV) (number : Int) : SubV := ⟨s.id, s.start, number, s.got, s.lost + skipG r s number, s.passed + (number - s.cursor - skipG r s number), s.filter⟩
def skipC (r : RingV) (id number : Int) : Int := if ringB r then (if atI r.subs id < 0 then 3 else if unwaitB r id then 5 else if decide (number ≥ curI r id) && decide (number ≤ r.sent) then 0 else 6) else 1
def skipR (r : RingV) (id number : Int) : RingV := if skipC r id number = 0 then (match r.subs[(atI r.subs id).toNat]? with
  | some s => trimR { r with subs := r.subs.set (atI r.subs id).toNat (skipS r s number) }
  | none => r) else r
theorem skipR_at {r : RingV} {id number : Int} {k : Nat} {s : SubV} {g : List SubV} (hc : skipC r id number = 0) (hk : atI r.subs id = k) (hks : r.subs[k]? = some s) (hg : Turn r.subs g k (skipS r s number)) :
    skipR r id number = trimR ⟨r.cap, r.sent, r.items, r.next, g, r.line, r.grants, r.closed⟩ := by
  simp only [skipR, hc, if_true, hk, Int.toNat_natCast, hks, hg.eq]
theorem skipR_not {r : RingV} {id number : Int} (hc : skipC r id number ≠ 0) : skipR r id number = r := by simp only [skipR, hc, if_false]
theorem skip_w (r : RingV) (id number : Int) : wRing (skipR r id number) ≤ wRing r := by
  unfold skipR
  split
  · split
    · rename_i s hs
      refine Nat.le_trans (trim_w _) ?_
      have := (⟨by rw [List.getElem?_set_self (List.getElem?_eq_some_iff.1 hs).1], by simp, rfl⟩ : Turn r.subs _ _ (skipS r s number)).w hs rfl
      simp only [wRing, this]; omega
    · exact Nat.le_refl _
  · exact Nat.le_refl _
structure SkipFit (r : RingV) (s : SubV) (k : Nat) (number L Q : Int) (g1 g2 g3 : List SubV) : Prop where
  t1 : Turn r.subs g1 k ⟨s.id, s.start, s.cursor, s.got, L, s.passed, s.filter⟩
  t2 : Turn g1 g2 k ⟨s.id, s.start, s.cursor, s.got, L, Q, s.filter⟩
  t3 : Turn g2 g3 k ⟨s.id, s.start, number, s.got, L, Q, s.filter⟩
  t : Turn r.subs g3 k (skipS r s number)
  ok : okRing ⟨r.cap, r.sent, r.items, r.next, g3, r.line, r.grants, r.closed⟩
  f1 : 0 ≤ r.sent - oldestI ⟨r.cap, r.sent, r.items, r.next, g3, r.line, r.grants, r.closed⟩
  f2 : r.sent - oldestI ⟨r.cap, r.sent, r.items, r.next, g3, r.line, r.grants, r.closed⟩ ≤ r.items.length
theorem skip_fit {r : RingV} {id number : Int} {k : Nat} {s : SubV} (hr : okRing r) (hI : RingIs r) (hks : r.subs[k]? = some s) (hn : s.cursor ≤ number) : ∃ g1 g2 g3, SkipFit r s k number (s.lost + skipG r s number) (s.passed + (number - s.cursor - skipG r s number)) g1 g2 g3 := by
  obtain ⟨g1, t1⟩ := turn ⟨s.id, s.start, s.cursor, s.got, s.lost + skipG r s number, s.passed, s.filter⟩ hks
  obtain ⟨g2, t2⟩ := turn ⟨s.id, s.start, s.cursor, s.got, s.lost + skipG r s number, s.passed + (number - s.cursor - skipG r s number), s.filter⟩ t1.got
  obtain ⟨g3, t3⟩ := turn ⟨s.id, s.start, number, s.got, s.lost + skipG r s number, s.passed + (number - s.cursor - skipG r s number), s.filter⟩ t2.got
  have t : Turn r.subs g3 k (skipS r s number) := t1.again (t2.again t3)
  have hf := trim_fit (r := r) (q := ⟨r.cap, r.sent, r.items, r.next, g3, r.line, r.grants, r.closed⟩) hI rfl (Int.le_refl _) (by simp) (by
    simp only [t.eq]
    exact subs_set hks hn)
  refine ⟨g1, g2, g3, t1, t2, t3, t, ⟨hr.1, ?_, hr.2.2⟩, hf.1, hf.2⟩
  simp only [t.eq]
  exact okSubS_set hks rfl hr.2.1
theorem c_impl_SkipTo (r : RingV) (id number : Int) {u : AV} (hu : u = encRing false r) (hr : okRing r) (hw : wRing r ≤ 4194304) (l1 : r.line.length ≤ 1048576) (l2 : r.grants.length ≤ 1048576) (l3 : r.items.length ≤ 1048576) : Sound P 40 [u, .int .i64 id, .int .i64 number] (.tup [encRing true (skipR r id number), .int .i64 (skipC r id number)]) := by
  subst hu
  have m1 : r.line.length < 4611686018427387904 := by omega
  have m2 : r.grants.length < 4611686018427387904 := by omega
  have m3 : r.items.length ≤ 4194304 := by omega
  have hl : r.subs.length < 4611686018427387904 := hr.2.1.1
  cases hB : ringB r
  · have hc : skipC r id number = 1 := by simp [skipC, hB]
    rw [skipR_not (by omega), hc]
    clear hc
    refine sound_body hT Go.Proofs.Try.func40 rfl ?_
    rw [Go.Proofs.Try.results40, Go.Proofs.Try.ntmps40]
    simp only [frame, List.length_cons, List.length_nil, List.replicate, List.cons_append, List.nil_append, Nat.reduceAdd, Nat.reduceSub]
    repeat' (first
    | with_reducible first | refine aw_seq ?_ | refine aw_block ?_ | refine aw_skip ?_ | refine aw_exit ?_
    | with_reducible first | refine aw_ret ?_ | refine thenA_n ?_ | refine thenA_r ?_ | refine thenA_x ?_ | refine blockA_n ?_ | refine blockA_r ?_ | refine blockA_e ?_ | refine blockA_x (by decide) ?_ | refine ends_r ?_ | refine ends_n ?_ | refine ends_rM ?_ | refine ends_nM ?_ | refine aw_reg ?_
    | with_reducible refine al_nil ?_
    | (with_reducible apply aw_cond
       · simp only [go_sem, *]; with_reducible rfl
       all_goals (intro h; try simp only [Bool.not_eq_true', Bool.not_eq_false', reduceCtorEq] at h))
    | (with_reducible apply al_call (f := 82)
       · first | exact gchk_none rfl | simp only [go_sem, *]
       · rfl
       · exact Go.Proofs.Try.call82
       · simp only [go_sem, encRing, zeroRing, *]; with_reducible rfl
       · simp only [go_sem, *]
       · first | assumption | ((with_reducible apply c_impl_copyRing) <;> first | assumption | rfl)
       · simp only [go_sem]; with_reducible rfl)
    | (with_reducible apply al_call (f := 18)
       · first | exact gchk_none rfl | simp only [go_sem, *]
       · rfl
       · exact Go.Proofs.Try.call18
       · simp only [go_sem, encRing, zeroRing, *]; with_reducible rfl
       · simp only [go_sem, *]
       · first | assumption | ((with_reducible apply c_impl_RingOk) <;> first | assumption | rfl)
       · simp only [go_sem]; with_reducible rfl)
    | (with_reducible apply al_s hT true
       · first | exact gchk_none rfl | simp only [go_sem, *]
       · simp only [go_sem, encRing, zeroRing, *]; first | done | with_reducible rfl)
    )
    all_goals ((simp only [go_sem, *]); first | done | rfl)
  by_cases hneg : atI r.subs id < 0
  · have hc : skipC r id number = 3 := by simp [skipC, hB, hneg]
    rw [skipR_not (by omega), hc]
    clear hc
    have hg : decide (atI r.subs id < 0) = true := decide_eq_true hneg
    refine sound_body hT Go.Proofs.Try.func40 rfl ?_
    rw [Go.Proofs.Try.results40, Go.Proofs.Try.ntmps40]
    simp only [frame, List.length_cons, List.length_nil, List.replicate, List.cons_append, List.nil_append, Nat.reduceAdd, Nat.reduceSub]
    repeat' (first
    | with_reducible first | refine aw_seq ?_ | refine aw_block ?_ | refine aw_skip ?_ | refine aw_exit ?_
    | with_reducible first | refine aw_ret ?_ | refine thenA_n ?_ | refine thenA_r ?_ | refine thenA_x ?_ | refine blockA_n ?_ | refine blockA_r ?_ | refine blockA_e ?_ | refine blockA_x (by decide) ?_ | refine ends_r ?_ | refine ends_n ?_ | refine ends_rM ?_ | refine ends_nM ?_ | refine aw_reg ?_
    | with_reducible refine al_nil ?_
    | (with_reducible apply aw_cond
       · simp only [go_sem, *]; with_reducible rfl
       all_goals (intro h; try simp only [Bool.not_eq_true', Bool.not_eq_false', reduceCtorEq] at h))
    | (with_reducible apply al_call (f := 82)
       · first | exact gchk_none rfl | simp only [go_sem, *]
       · rfl
       · exact Go.Proofs.Try.call82
       · simp only [go_sem, encRing, zeroRing, *]; with_reducible rfl
       · simp only [go_sem, *]
       · first | assumption | ((with_reducible apply c_impl_copyRing) <;> first | assumption | rfl)
       · simp only [go_sem]; with_reducible rfl)
    | (with_reducible apply al_call (f := 18)
       · first | exact gchk_none rfl | simp only [go_sem, *]
       · rfl
       · exact Go.Proofs.Try.call18
       · simp only [go_sem, encRing, zeroRing, *]; with_reducible rfl
       · simp only [go_sem, *]
       · first | assumption | ((with_reducible apply c_impl_RingOk) <;> first | assumption | rfl)
       · simp only [go_sem]; with_reducible rfl)
    | (with_reducible apply al_call (f := 80)
       · first | exact gchk_none rfl | simp only [go_sem, *]
       · rfl
       · exact Go.Proofs.Try.call80
       · simp only [go_sem, encRing, zeroRing, *]; with_reducible rfl
       · simp only [go_sem, *]
       · first | assumption | ((with_reducible apply c_impl_subAt) <;> first | assumption | rfl)
       · simp only [go_sem]; with_reducible rfl)
    | (with_reducible apply al_s hT true
       · first | exact gchk_none rfl | simp only [go_sem, *]
       · simp only [go_sem, encRing, zeroRing, *]; first | done | with_reducible rfl)
    )
    all_goals ((simp only [go_sem, *]); first | done | rfl)
  obtain ⟨k, s, hk, hkl, hks, _⟩ := atI_at (f := r.subs) (id := id) (by omega)
  have hg : decide ((k : Int) < 0) = false := decide_eq_false (by omega)
  have hk0 : (0 : Int) ≤ (k : Int) := by omega
  have hk1 : (k : Int) < (r.subs.length : Int) := by omega
  rcases (by cases r.line.any (· == id) <;> cases r.grants.any (· == id) <;> simp : (r.line.any (· == id) = false ∧ r.grants.any (· == id) = false) ∨ r.line.any (· == id) = true ∨ (r.line.any (· == id) = false ∧ r.grants.any (· == id) = true)) with hL | hL | hL
  rotate_left
  · have hc : skipC r id number = 5 := by simp only [skipC, hB, if_true, if_neg hneg, unwaitB, hL, Bool.true_or]
    rw [skipR_not (by omega), hc]
    clear hc hneg
    refine sound_body hT Go.Proofs.Try.func40 rfl ?_
    rw [Go.Proofs.Try.results40, Go.Proofs.Try.ntmps40]
    simp only [frame, List.length_cons, List.length_nil, List.replicate, List.cons_append, List.nil_append, Nat.reduceAdd, Nat.reduceSub]
    repeat' (first
    | with_reducible first | refine aw_seq ?_ | refine aw_block ?_ | refine aw_skip ?_ | refine aw_exit ?_
    | with_reducible first | refine aw_ret ?_ | refine thenA_n ?_ | refine thenA_r ?_ | refine thenA_x ?_ | refine blockA_n ?_ | refine blockA_r ?_ | refine blockA_e ?_ | refine blockA_x (by decide) ?_ | refine ends_r ?_ | refine ends_n ?_ | refine ends_rM ?_ | refine ends_nM ?_ | refine aw_reg ?_
    | with_reducible refine al_nil ?_
    | (with_reducible apply aw_cond
       · simp only [go_sem, *]; with_reducible rfl
       all_goals (intro h; try simp only [Bool.not_eq_true', Bool.not_eq_false', reduceCtorEq] at h))
    | (with_reducible apply al_call (f := 82)
       · first | exact gchk_none rfl | simp only [go_sem, *]
       · rfl
       · exact Go.Proofs.Try.call82
       · simp only [go_sem, encRing, zeroRing, *]; with_reducible rfl
       · simp only [go_sem, *]
       · first | assumption | ((with_reducible apply c_impl_copyRing) <;> first | assumption | rfl)
       · simp only [go_sem]; with_reducible rfl)
    | (with_reducible apply al_call (f := 18)
       · first | exact gchk_none rfl | simp only [go_sem, *]
       · rfl
       · exact Go.Proofs.Try.call18
       · simp only [go_sem, encRing, zeroRing, *]; with_reducible rfl
       · simp only [go_sem, *]
       · first | assumption | ((with_reducible apply c_impl_RingOk) <;> first | assumption | rfl)
       · simp only [go_sem]; with_reducible rfl)
    | (with_reducible apply al_call (f := 80)
       · first | exact gchk_none rfl | simp only [go_sem, *]
       · rfl
       · exact Go.Proofs.Try.call80
       · simp only [go_sem, encRing, zeroRing, *]; with_reducible rfl
       · simp only [go_sem, *]
       · first | assumption | ((with_reducible apply c_impl_subAt) <;> first | assumption | rfl)
       · simp only [go_sem]; with_reducible rfl)
    | (with_reducible apply al_call (f := 97)
       · first | exact gchk_none rfl | simp only [go_sem, *]
       · rfl
       · exact Go.Proofs.Try.call97
       · simp only [go_sem, encRing, zeroRing, *]; with_reducible rfl
       · simp only [go_sem, *]
       · first | assumption | ((with_reducible apply c_slices_Contains_int_int) <;> first | assumption | rfl)
       · simp only [go_sem]; with_reducible rfl)
    | (with_reducible apply al_s hT true
       · first | exact gchk_none rfl | simp only [go_sem, *]
       · simp only [go_sem, encRing, zeroRing, *]; first | done | with_reducible rfl)
    | (with_reducible apply al_skip
       · simp only [go_sem, *]
       · simp only [go_sem]; with_reducible rfl)
    )
    all_goals ((simp only [go_sem, *]); first | done | rfl)
  · obtain ⟨hL, hG⟩ := hL
    have hc : skipC r id number = 5 := by simp only [skipC, hB, if_true, if_neg hneg, unwaitB, hL, hG, Bool.false_or]
    rw [skipR_not (by omega), hc]
    clear hc hneg
    refine sound_body hT Go.Proofs.Try.func40 rfl ?_
    rw [Go.Proofs.Try.results40, Go.Proofs.Try.ntmps40]
    simp only [frame, List.length_cons, List.length_nil, List.replicate, List.cons_append, List.nil_append, Nat.reduceAdd, Nat.reduceSub]
    repeat' (first
    | with_reducible first | refine aw_seq ?_ | refine aw_block ?_ | refine aw_skip ?_ | refine aw_exit ?_
    | with_reducible first | refine aw_ret ?_ | refine thenA_n ?_ | refine thenA_r ?_ | refine thenA_x ?_ | refine blockA_n ?_ | refine blockA_r ?_ | refine blockA_e ?_ | refine blockA_x (by decide) ?_ | refine ends_r ?_ | refine ends_n ?_ | refine ends_rM ?_ | refine ends_nM ?_ | refine aw_reg ?_
    | with_reducible refine al_nil ?_
    | (with_reducible apply aw_cond
       · simp only [go_sem, *]; with_reducible rfl
       all_goals (intro h; try simp only [Bool.not_eq_true', Bool.not_eq_false', reduceCtorEq] at h))
    | (with_reducible apply al_call (f := 82)
       · first | exact gchk_none rfl | simp only [go_sem, *]
       · rfl
       · exact Go.Proofs.Try.call82
       · simp only [go_sem, encRing, zeroRing, *]; with_reducible rfl
       · simp only [go_sem, *]
       · first | assumption | ((with_reducible apply c_impl_copyRing) <;> first | assumption | rfl)
       · simp only [go_sem]; with_reducible rfl)
    | (with_reducible apply al_call (f := 18)
       · first | exact gchk_none rfl | simp only [go_sem, *]
       · rfl
       · exact Go.Proofs.Try.call18
       · simp only [go_sem, encRing, zeroRing, *]; with_reducible rfl
       · simp only [go_sem, *]
       · first | assumption | ((with_reducible apply c_impl_RingOk) <;> first | assumption | rfl)
       · simp only [go_sem]; with_reducible rfl)
    | (with_reducible apply al_call (f := 80)
       · first | exact gchk_none rfl | simp only [go_sem, *]
       · rfl
       · exact Go.Proofs.Try.call80
       · simp only [go_sem, encRing, zeroRing, *]; with_reducible rfl
       · simp only [go_sem, *]
       · first | assumption | ((with_reducible apply c_impl_subAt) <;> first | assumption | rfl)
       · simp only [go_sem]; with_reducible rfl)
    | (with_reducible apply al_call (f := 97)
       · first | exact gchk_none rfl | simp only [go_sem, *]
       · rfl
       · exact Go.Proofs.Try.call97
       · simp only [go_sem, encRing, zeroRing, *]; with_reducible rfl
       · simp only [go_sem, *]
       · first | assumption | ((with_reducible apply c_slices_Contains_int_int) <;> first | assumption | rfl)
       · simp only [go_sem]; with_reducible rfl)
    | (with_reducible apply al_s hT true
       · first | exact gchk_none rfl | simp only [go_sem, *]
       · simp only [go_sem, encRing, zeroRing, *]; first | done | with_reducible rfl)
    )
    all_goals ((simp only [go_sem, *]); first | done | rfl)
  obtain ⟨hL, hG⟩ := hL
  have hcu : curI r id = s.cursor := by simp only [curI, hk, Int.toNat_natCast, hks]
  by_cases hin : s.cursor ≤ number ∧ number ≤ r.sent
  rotate_left
  · have hW : (decide (number ≥ s.cursor) && decide (number ≤ r.sent)) = false := by rw [← Bool.not_eq_true, Bool.and_eq_true, decide_eq_true_eq, decide_eq_true_eq]; exact hin
    have hc : skipC r id number = 6 := by simp only [skipC, hB, if_true, if_neg hneg, unwaitB, hL, hG, Bool.or_self, Bool.false_eq_true, if_false, hcu, hW]
    rw [skipR_not (by omega), hc]
    clear hc hneg hcu hin
    refine sound_body hT Go.Proofs.Try.func40 rfl ?_
    rw [Go.Proofs.Try.results40, Go.Proofs.Try.ntmps40]
    simp only [frame, List.length_cons, List.length_nil, List.replicate, List.cons_append, List.nil_append, Nat.reduceAdd, Nat.reduceSub]
    repeat' (first
    | with_reducible first | refine aw_seq ?_ | refine aw_block ?_ | refine aw_skip ?_ | refine aw_exit ?_
    | with_reducible first | refine aw_ret ?_ | refine thenA_n ?_ | refine thenA_r ?_ | refine thenA_x ?_ | refine blockA_n ?_ | refine blockA_r ?_ | refine blockA_e ?_ | refine blockA_x (by decide) ?_ | refine ends_r ?_ | refine ends_n ?_ | refine ends_rM ?_ | refine ends_nM ?_ | refine aw_reg ?_
    | (with_reducible apply aw_anyS hT (id := 9) [[], [], [1], [], [1, 2, 3], [1, 2, 3, 4], [1, 2, 3, 4, 5], [], [7], [0, 1, 2, 3, 4, 5, 6, 7, 8], [0, 1, 2, 3, 4, 5, 6, 7, 8, 9], [0, 1, 2, 3, 4, 5, 6, 7, 8, 9, 10]] [38, 39, 40, 41, 42, 43, 44, 45, 46, 47, 48, 37]
       · rfl
       · decide +kernel
       · decide +kernel
       · simp only [go_sem, *])
    | with_reducible refine al_nil ?_
    | (with_reducible apply aw_cond
       · simp only [go_sem, *]; with_reducible rfl
       all_goals (intro h; try simp only [Bool.not_eq_true', Bool.not_eq_false', reduceCtorEq] at h))
    | (with_reducible apply al_call (f := 82)
       · first | exact gchk_none rfl | simp only [go_sem, *]
       · rfl
       · exact Go.Proofs.Try.call82
       · simp only [go_sem, encRing, encSub, zeroRing, *]; with_reducible rfl
       · simp only [go_sem, *]
       · first | assumption | ((with_reducible apply c_impl_copyRing) <;> first | assumption | rfl)
       · simp only [go_sem]; with_reducible rfl)
    | (with_reducible apply al_call (f := 18)
       · first | exact gchk_none rfl | simp only [go_sem, *]
       · rfl
       · exact Go.Proofs.Try.call18
       · simp only [go_sem, encRing, encSub, zeroRing, *]; with_reducible rfl
       · simp only [go_sem, *]
       · first | assumption | ((with_reducible apply c_impl_RingOk) <;> first | assumption | rfl)
       · simp only [go_sem]; with_reducible rfl)
    | (with_reducible apply al_call (f := 80)
       · first | exact gchk_none rfl | simp only [go_sem, *]
       · rfl
       · exact Go.Proofs.Try.call80
       · simp only [go_sem, encRing, encSub, zeroRing, *]; with_reducible rfl
       · simp only [go_sem, *]
       · first | assumption | ((with_reducible apply c_impl_subAt) <;> first | assumption | rfl)
       · simp only [go_sem]; with_reducible rfl)
    | (with_reducible apply al_call (f := 97)
       · first | exact gchk_none rfl | simp only [go_sem, *]
       · rfl
       · exact Go.Proofs.Try.call97
       · simp only [go_sem, encRing, encSub, zeroRing, *]; with_reducible rfl
       · simp only [go_sem, *]
       · first | assumption | ((with_reducible apply c_slices_Contains_int_int) <;> first | assumption | rfl)
       · simp only [go_sem]; with_reducible rfl)
    | with_reducible refine ad_nil ?_
    | (with_reducible apply ad_q hT
       · first | exact gchk_none rfl | simp only [go_sem, *]
       · simp only [go_sem, encRing, encSub, zeroRing, *]; first | done | with_reducible rfl
       · simp only [go_sem, *]
       · simp only [go_sem]; with_reducible rfl)
    | (with_reducible apply ad_assign
       · first | exact gchk_none rfl | simp only [go_sem, *]
       · rfl
       · simp only [go_sem, encRing, encSub, zeroRing, *]; with_reducible rfl
       · simp only [go_sem, *]
       · simp only [go_sem]; with_reducible rfl)
    | (with_reducible apply ad_call (f := 70)
       · first | exact gchk_none rfl | simp only [go_sem, *]
       · rfl
       · exact Go.Proofs.Try.call70
       · simp only [go_sem, encRing, encSub, zeroRing, *]; with_reducible rfl
       · simp only [go_sem, *]
       · first | assumption | ((with_reducible apply c_impl_within) <;> first | assumption | rfl)
       · simp only [go_sem, *]
       · simp only [go_sem]; with_reducible rfl)
    | (with_reducible apply al_s hT true
       · first | exact gchk_none rfl | simp only [go_sem, *]
       · simp only [go_sem, encRing, encSub, zeroRing, *]; first | done | with_reducible rfl)
    )
    all_goals ((simp only [go_sem, *]); first | done | rfl)
  obtain ⟨hin, hin2⟩ := hin
  have hW : (decide (number ≥ s.cursor) && decide (number ≤ r.sent)) = true := by rw [Bool.and_eq_true, decide_eq_true_eq, decide_eq_true_eq]; exact ⟨hin, hin2⟩
  have hc : skipC r id number = 0 := by simp only [skipC, hB, if_true, if_neg hneg, unwaitB, hL, hG, Bool.or_self, Bool.false_eq_true, if_false, hcu, hW]
  have hI := ringIs hB
  have hs := hI.at hks
  obtain ⟨g1, g2, g3, hF⟩ := skip_fit (id := id) hr hI hks hin
  rw [skipR_at hc hk hks hF.t, hc]
  have := hI.cap1; have := hI.cap2; have := hI.sent1; have := hI.sent2; have := hs.start; have := hs.cur1; have := hs.cur2; have := hs.lost1; have := hs.lost2; have := hs.pass1; have := hs.pass2
  have hb1 : -9223372036854775808 ≤ r.sent - r.cap := by omega
  have hb2 : r.sent - r.cap ≤ 9223372036854775807 := by omega
  obtain ⟨g, hgd⟩ : ∃ g, goneI r number = g := ⟨_, rfl⟩
  have hmin : (if r.sent - r.cap < number then r.sent - r.cap else number) = g := hgd
  have hgr : g ≤ number ∧ -100 ≤ g := by rw [← hmin]; split <;> omega
  obtain ⟨G, hGd⟩ : ∃ G, skipG r s number = G := ⟨_, rfl⟩
  have hmax : (if 0 > g - s.cursor then 0 else g - s.cursor) = G := by rw [← hGd, skipG, hgd]
  have hGr : 0 ≤ G ∧ G ≤ number - s.cursor := by rw [← hmax]; split <;> omega
  obtain ⟨Ql, hQl⟩ : ∃ Q, s.lost + G = Q := ⟨_, rfl⟩
  obtain ⟨Qp, hQp⟩ : ∃ Q, s.passed + (number - s.cursor - G) = Q := ⟨_, rfl⟩
  rw [hGd, hQl, hQp] at hF
  have w1 : IntKind.i64.wrap (r.sent - r.cap) = r.sent - r.cap := by rw [wrap_small] <;> omega
  have w2 : IntKind.i64.wrap (g - s.cursor) = g - s.cursor := by rw [wrap_small] <;> omega
  have w3 : IntKind.i64.wrap (s.lost + G) = Ql := by rw [hQl, wrap_small] <;> omega
  have w4 : IntKind.i64.wrap (number - s.cursor) = number - s.cursor := by rw [wrap_small] <;> omega
  have w5 : IntKind.i64.wrap (number - s.cursor - G) = number - s.cursor - G := by rw [wrap_small] <;> omega
  have w6 : IntKind.i64.wrap (s.passed + (number - s.cursor - G)) = Qp := by rw [hQp, wrap_small] <;> omega
  have e1 : (r.subs.map (encSub true)).set k (.agg [.int .i64 s.id, .int .i64 s.start, .int .i64 s.cursor, .int .i64 s.got, .int .i64 Ql, .int .i64 s.passed, .lst true 3 (s.filter.map encT)]) = g1.map (encSub true) := hF.t1.map true
  have e2 : (g1.map (encSub true)).set k (.agg [.int .i64 s.id, .int .i64 s.start, .int .i64 s.cursor, .int .i64 s.got, .int .i64 Ql, .int .i64 Qp, .lst true 3 (s.filter.map encT)]) = g2.map (encSub true) := hF.t2.map true
  have e3 : (g2.map (encSub true)).set k (.agg [.int .i64 s.id, .int .i64 s.start, .int .i64 number, .int .i64 s.got, .int .i64 Ql, .int .i64 Qp, .lst true 3 (s.filter.map encT)]) = g3.map (encSub true) := hF.t3.map true
  have a1 := hF.t1.got
  have a2 := hF.t2.got
  have a3 := hF.t3.got
  have ho := hF.ok
  have f1 := hF.f1
  have f2 := hF.f2
  clear hc hneg hcu hin hin2 hF hI hs hgd hGd hgr hGr hQl hQp
  refine sound_body hT Go.Proofs.Try.func40 rfl ?_
  rw [Go.Proofs.Try.results40, Go.Proofs.Try.ntmps40]
  simp only [frame, List.length_cons, List.length_nil, List.replicate, List.cons_append, List.nil_append, Nat.reduceAdd, Nat.reduceSub]
  repeat' (first
  | with_reducible first | refine aw_seq ?_ | refine aw_block ?_ | refine aw_skip ?_ | refine aw_exit ?_
  | with_reducible first | refine aw_ret ?_ | refine thenA_n ?_ | refine thenA_r ?_ | refine thenA_x ?_ | refine blockA_n ?_ | refine blockA_r ?_ | refine blockA_e ?_ | refine blockA_x (by decide) ?_ | refine ends_r ?_ | refine ends_n ?_ | refine ends_rM ?_ | refine ends_nM ?_ | refine aw_reg ?_
  | (with_reducible apply aw_anyS hT (id := 9) [[], [], [1], [], [1, 2, 3], [1, 2, 3, 4], [1, 2, 3, 4, 5], [], [7], [0, 1, 2, 3, 4, 5, 6, 7, 8], [0, 1, 2, 3, 4, 5, 6, 7, 8, 9], [0, 1, 2, 3, 4, 5, 6, 7, 8, 9, 10]] [38, 39, 40, 41, 42, 43, 44, 45, 46, 47, 48, 37]
     · rfl
     · decide +kernel
     · decide +kernel
     · simp only [go_sem, *])
  | (with_reducible apply aw_anyT hT (id := 14) [[], [0], [0, 1], [0, 1, 2], [], [], [5], [5, 6], [5, 6, 7], [4, 5, 6, 7, 8], [], [4, 5, 6, 7, 8, 9, 10], [0, 1, 2, 3, 4, 5, 6, 7, 8, 9, 10, 11], [0, 1, 2, 3, 4, 5, 6, 7, 8, 9, 10, 11, 12], [0, 1, 2, 3, 4, 5, 6, 7, 8, 9, 10, 11, 12, 13], [0, 1, 2, 3, 4, 5, 6, 7, 8, 9, 10, 11, 12, 13, 14]] 12 [75, 76, 77, 78, 79, 80, 81, 82, 83, 84, 85, 86]
     · simp only [List.take_succ_cons, List.take_zero]; with_reducible rfl
     · simp only [List.drop_succ_cons, List.drop_zero]; with_reducible rfl
     · rfl
     · decide +kernel
     · decide +kernel
     · decide +kernel
     · simp only [go_sem, *])
  | (with_reducible apply aw_anyW (id := 12) [[], [], [1], [], [3], [1, 2, 3, 4], [0, 1, 2, 3, 4, 5], [], [7], [7, 8], [7, 8, 9], [0, 1, 2, 3, 4, 5, 6, 7, 8, 9, 10], [0, 1, 2, 3, 4, 5, 6, 7, 8, 9, 10, 11], [0, 1, 2, 3, 4, 5, 6, 7, 8, 9, 10, 11, 12]] [[(54, _)], [(55, _)], [(56, _)], [(57, _)], [(58, _)], [(59, _)], [(60, _)], [(61, _)], [(62, _)], [(63, _)], [(64, _)], [(65, _)], [(66, _)], [(11, _)]] hT
     · decide +kernel
     · skip
       with_reducible refine steps_cons2 [6, 11, 12, 13] (by decide +kernel) (fun D hk hd hf => ?_) ?_
       · try simp only [go_sem, allT, Option.getD_some] at hd
         try simp only [go_sem, allF] at hf
         simp only [fillW, putIfs, putIf, cond_true, also, Nat.reduceBEq, cond_false, Nat.reduceAdd, hd, hk, hf]
         exact as_q hT (gchk_none rfl) (by simp only [go_sem, encRing, encSub, zeroRing, *]; with_reducible rfl) (by simp only [go_sem]; with_reducible rfl)
       with_reducible refine steps_cons2 [2, 5, 6, 11, 12, 13] (by decide +kernel) (fun D hk hd hf => ?_) ?_
       · try simp only [go_sem, allT, Option.getD_some] at hd
         try simp only [go_sem, allF] at hf
         simp only [fillW, putIfs, putIf, cond_true, also, Nat.reduceBEq, cond_false, Nat.reduceAdd, hd, hk, hf]
         exact as_q hT (gchk_none rfl) (by simp only [go_sem, encRing, encSub, zeroRing, *]; with_reducible rfl) (by simp only [go_sem]; with_reducible rfl)
       with_reducible refine steps_cons2 [5, 6, 11, 12, 13] (by decide +kernel) (fun D hk hd hf => ?_) ?_
       · try simp only [go_sem, allT, Option.getD_some] at hd
         try simp only [go_sem, allF] at hf
         simp only [fillW, putIfs, putIf, cond_true, also, Nat.reduceBEq, cond_false, Nat.reduceAdd, hd, hk, hf]
         exact as_q hT (gchk_none rfl) (by simp only [go_sem, encRing, encSub, zeroRing, *]; with_reducible rfl) (by simp only [go_sem]; with_reducible rfl)
       with_reducible refine steps_cons2 [4, 5, 6, 11, 12, 13] (by decide +kernel) (fun D hk hd hf => ?_) ?_
       · try simp only [go_sem, allT, Option.getD_some] at hd
         try simp only [go_sem, allF] at hf
         simp only [fillW, putIfs, putIf, cond_true, also, Nat.reduceBEq, cond_false, Nat.reduceAdd, hd, hk, hf]
         exact as_q hT (gchk_none rfl) (by simp only [go_sem, encRing, encSub, zeroRing, *]; with_reducible rfl) (by simp only [go_sem]; with_reducible rfl)
       with_reducible refine steps_cons2 [5, 6, 11, 12, 13] (by decide +kernel) (fun D hk hd hf => ?_) ?_
       · try simp only [go_sem, allT, Option.getD_some] at hd
         try simp only [go_sem, allF] at hf
         simp only [fillW, putIfs, putIf, cond_true, also, Nat.reduceBEq, cond_false, Nat.reduceAdd, hd, hk, hf]
         exact as_q hT (gchk_none rfl) (by simp only [go_sem, encRing, encSub, zeroRing, *]; with_reducible rfl) (by simp only [go_sem]; with_reducible rfl)
       with_reducible refine steps_cons2 [6, 11, 12, 13] (by decide +kernel) (fun D hk hd hf => ?_) ?_
       · try simp only [go_sem, allT, Option.getD_some] at hd
         try simp only [go_sem, allF] at hf
         simp only [fillW, putIfs, putIf, cond_true, also, Nat.reduceBEq, cond_false, Nat.reduceAdd, hd, hk, hf]
         exact as_q hT (gchk_none rfl) (by simp only [go_sem, encRing, encSub, zeroRing, *]; with_reducible rfl) (by simp only [go_sem]; with_reducible rfl)
       with_reducible refine steps_cons2 [11, 12, 13] (by decide +kernel) (fun D hk hd hf => ?_) ?_
       · try simp only [go_sem, allT, Option.getD_some] at hd
         try simp only [go_sem, allF] at hf
         simp only [fillW, putIfs, putIf, cond_true, also, Nat.reduceBEq, cond_false, Nat.reduceAdd, hd, hk, hf]
         exact as_s hT true (gchk_none rfl) (by simp only [go_sem, encRing, encSub, zeroRing, *]; with_reducible rfl)
       with_reducible refine steps_cons2 [8, 9, 10, 11, 12, 13] (by decide +kernel) (fun D hk hd hf => ?_) ?_
       · try simp only [go_sem, allT, Option.getD_some] at hd
         try simp only [go_sem, allF] at hf
         simp only [fillW, putIfs, putIf, cond_true, also, Nat.reduceBEq, cond_false, Nat.reduceAdd, hd, hk, hf]
         exact as_q hT (gchk_none rfl) (by simp only [go_sem, encRing, encSub, zeroRing, *]; with_reducible rfl) (by simp only [go_sem]; with_reducible rfl)
       with_reducible refine steps_cons2 [9, 10, 11, 12, 13] (by decide +kernel) (fun D hk hd hf => ?_) ?_
       · try simp only [go_sem, allT, Option.getD_some] at hd
         try simp only [go_sem, allF] at hf
         simp only [fillW, putIfs, putIf, cond_true, also, Nat.reduceBEq, cond_false, Nat.reduceAdd, hd, hk, hf]
         exact as_s hT true (gchk_none rfl) (by simp only [go_sem, encRing, encSub, zeroRing, *]; with_reducible rfl)
       with_reducible refine steps_cons2 [10, 11, 12, 13] (by decide +kernel) (fun D hk hd hf => ?_) ?_
       · try simp only [go_sem, allT, Option.getD_some] at hd
         try simp only [go_sem, allF] at hf
         simp only [fillW, putIfs, putIf, cond_true, also, Nat.reduceBEq, cond_false, Nat.reduceAdd, hd, hk, hf]
         exact as_q hT (gchk_none rfl) (by simp only [go_sem, encRing, encSub, zeroRing, *]; with_reducible rfl) (by simp only [go_sem]; with_reducible rfl)
       with_reducible refine steps_cons2 [11, 12, 13] (by decide +kernel) (fun D hk hd hf => ?_) ?_
       · try simp only [go_sem, allT, Option.getD_some] at hd
         try simp only [go_sem, allF] at hf
         simp only [fillW, putIfs, putIf, cond_true, also, Nat.reduceBEq, cond_false, Nat.reduceAdd, hd, hk, hf]
         exact as_q hT (gchk_none rfl) (by simp only [go_sem, encRing, encSub, zeroRing, *]; with_reducible rfl) (by simp only [go_sem]; with_reducible rfl)
       with_reducible refine steps_cons2 [12, 13] (by decide +kernel) (fun D hk hd hf => ?_) ?_
       · try simp only [go_sem, allT, Option.getD_some] at hd
         try simp only [go_sem, allF] at hf
         simp only [fillW, putIfs, putIf, cond_true, also, Nat.reduceBEq, cond_false, Nat.reduceAdd, hd, hk, hf]
         exact as_q hT (gchk_none rfl) (by simp only [go_sem, encRing, encSub, zeroRing, *]; with_reducible rfl) (by simp only [go_sem]; with_reducible rfl)
       with_reducible refine steps_cons2 [13] (by decide +kernel) (fun D hk hd hf => ?_) ?_
       · try simp only [go_sem, allT, Option.getD_some] at hd
         try simp only [go_sem, allF] at hf
         simp only [fillW, putIfs, putIf, cond_true, also, Nat.reduceBEq, cond_false, Nat.reduceAdd, hd, hk, hf]
         exact as_s hT true (gchk_none rfl) (by simp only [go_sem, encRing, encSub, zeroRing, *]; with_reducible rfl)
       with_reducible refine steps_cons2 [] (by decide +kernel) (fun D hk hd hf => ?_) ?_
       · try simp only [go_sem, allT, Option.getD_some] at hd
         try simp only [go_sem, allF] at hf
         simp only [fillW, putIfs, putIf, cond_true, also, Nat.reduceBEq, cond_false, Nat.reduceAdd, hd, hk, hf]
         exact as_s hT true (gchk_none rfl) (by simp only [go_sem, encRing, encSub, zeroRing, *]; with_reducible rfl)
       exact steps_nil
     · rfl
     simp only [fillW, putIfs, putIf, cond_true])
  | with_reducible refine al_nil ?_
  | (with_reducible apply aw_cond
     · simp only [go_sem, *]; with_reducible rfl
     all_goals (intro h; try simp only [Bool.not_eq_true', Bool.not_eq_false', reduceCtorEq] at h))
  | (with_reducible apply al_call (f := 82)
     · first | exact gchk_none rfl | simp only [go_sem, *]
     · rfl
     · exact Go.Proofs.Try.call82
     · simp only [go_sem, encRing, encSub, zeroRing, *]; with_reducible rfl
     · simp only [go_sem, *]
     · first | assumption | ((with_reducible apply c_impl_copyRing) <;> first | assumption | rfl)
     · simp only [go_sem]; with_reducible rfl)
  | (with_reducible apply al_call (f := 18)
     · first | exact gchk_none rfl | simp only [go_sem, *]
     · rfl
     · exact Go.Proofs.Try.call18
     · simp only [go_sem, encRing, encSub, zeroRing, *]; with_reducible rfl
     · simp only [go_sem, *]
     · first | assumption | ((with_reducible apply c_impl_RingOk) <;> first | assumption | rfl)
     · simp only [go_sem]; with_reducible rfl)
  | (with_reducible apply al_call (f := 80)
     · first | exact gchk_none rfl | simp only [go_sem, *]
     · rfl
     · exact Go.Proofs.Try.call80
     · simp only [go_sem, encRing, encSub, zeroRing, *]; with_reducible rfl
     · simp only [go_sem, *]
     · first | assumption | ((with_reducible apply c_impl_subAt) <;> first | assumption | rfl)
     · simp only [go_sem]; with_reducible rfl)
  | (with_reducible apply al_call (f := 97)
     · first | exact gchk_none rfl | simp only [go_sem, *]
     · rfl
     · exact Go.Proofs.Try.call97
     · simp only [go_sem, encRing, encSub, zeroRing, *]; with_reducible rfl
     · simp only [go_sem, *]
     · first | assumption | ((with_reducible apply c_slices_Contains_int_int) <;> first | assumption | rfl)
     · simp only [go_sem]; with_reducible rfl)
  | (with_reducible apply al_lendB (f := 100)
     · exact gchk_none rfl
     · rfl
     · exact Go.Proofs.Try.call100
     · simp only [go_sem, encRing, encSub, zeroRing, *]; with_reducible rfl
     · simp only [go_sem]; with_reducible rfl
     · simp only [go_sem, encRing, encSub, zeroRing, *]
     · simp only [go_sem, *]
     · first | assumption | ((with_reducible apply b_impl_Ring_trim) <;> first | assumption | rfl)
     · simp only [go_sem, encRing, encSub, zeroRing, *]
     · simp only [go_sem, encRing, encSub, zeroRing]; with_reducible rfl)
  | with_reducible refine ad_nil ?_
  | (with_reducible apply ad_q hT
     · first | exact gchk_none rfl | simp only [go_sem, *]
     · simp only [go_sem, encRing, encSub, zeroRing, *]; first | done | with_reducible rfl
     · simp only [go_sem, *]
     · simp only [go_sem]; with_reducible rfl)
  | (with_reducible apply ad_assign
     · first | exact gchk_none rfl | simp only [go_sem, *]
     · rfl
     · simp only [go_sem, encRing, encSub, zeroRing, *]; with_reducible rfl
     · simp only [go_sem, *]
     · simp only [go_sem]; with_reducible rfl)
  | (with_reducible apply ad_call (f := 70)
     · first | exact gchk_none rfl | simp only [go_sem, *]
     · rfl
     · exact Go.Proofs.Try.call70
     · simp only [go_sem, encRing, encSub, zeroRing, *]; with_reducible rfl
     · simp only [go_sem, *]
     · first | assumption | ((with_reducible apply c_impl_within) <;> first | assumption | rfl)
     · simp only [go_sem, *]
     · simp only [go_sem]; with_reducible rfl)
  | (with_reducible apply al_s hT true
     · first | exact gchk_none rfl | simp only [go_sem, *]
     · simp only [go_sem, encRing, encSub, zeroRing, *]; first | done | with_reducible rfl)
  )
  all_goals ((simp only [go_sem, *]); first | done | rfl)
end Go.Proofs.Ytcgkejggkenecaa
