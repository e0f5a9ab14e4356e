/- Contracts: Lag and Balance, of the program. -/
import Derived.Test.YtcgkejggkenecaaFnS
import Derived.Test.YtcgkejggkenecaaFnRk
namespace Go.Proofs.Ytcgkejggkenecaa
open Go Go.RowKit Go.Bv
set_option linter.unusedSimpArgs false
set_option linter.unusedVariables false
set_option maxRecDepth 4000
set_option maxHeartbeats 1000000

def lagC (r : RingV) (id : Int) : Bool := ringB r && decide (0 ≤ atI r.subs id)
def lagA (r : RingV) (id : Int) : Int := if lagC r id then r.sent - curI r id else 0
def lagB (r : RingV) (id : Int) : Int := if lagC r id then (if 0 > r.sent - r.cap - curI r id then 0 else r.sent - r.cap - curI r id) else 0
def lagV (r : RingV) (id : Int) : AV := .tup [.int .i64 (lagA r id), .int .i64 (lagB r id), .bool (lagC r id)]
theorem c_impl_Lag (r : RingV) (id : Int) {u : AV} (hu : u = encRing false r) (hr : okRing r) (h1 : r.line.length ≤ 1048576) (h2 : r.grants.length ≤ 1048576) : Sound P 21 [u, .int .i64 id] (lagV r id) := by
  subst hu
  have hl : r.subs.length < 4611686018427387904 := hr.2.1.1
  cases hB : ringB r
  · have hv : lagV r id = .tup [.int .i64 0, .int .i64 0, .bool false] := by simp [lagV, lagA, lagB, lagC, hB]
    rw [hv]
    clear hv
    refine sound_body hT Go.Proofs.Try.func21 rfl ?_
    rw [Go.Proofs.Try.results21, Go.Proofs.Try.ntmps21]
    simp only [frame, List.length_cons, List.length_nil, List.replicate, List.cons_append, List.nil_append, Nat.reduceAdd, Nat.reduceSub]
    repeat' (first
    | with_reducible first | refine aw_seq ?_ | refine aw_block ?_ | refine aw_skip ?_ | refine aw_exit ?_
    | with_reducible first | refine aw_ret ?_ | refine thenA_n ?_ | refine thenA_r ?_ | refine thenA_x ?_ | refine blockA_n ?_ | refine blockA_r ?_ | refine blockA_e ?_ | refine blockA_x (by decide) ?_ | refine ends_r ?_ | refine ends_n ?_ | refine ends_rM ?_ | refine ends_nM ?_ | refine aw_reg ?_
    | with_reducible refine al_nil ?_
    | (with_reducible apply aw_cond
       · simp only [go_sem, *]; with_reducible rfl
       all_goals (intro h; try simp only [Bool.not_eq_true', Bool.not_eq_false', reduceCtorEq] at h))
    | (with_reducible apply al_call (f := 80)
       · first | exact gchk_none rfl | simp only [go_sem, *]
       · rfl
       · exact Go.Proofs.Try.call80
       · simp only [go_sem, encRing, *]; with_reducible rfl
       · simp only [go_sem, *]
       · first | assumption | ((with_reducible apply c_impl_subAt) <;> first | assumption | rfl)
       · simp only [go_sem]; with_reducible rfl)
    | (with_reducible apply al_call (f := 18)
       · first | exact gchk_none rfl | simp only [go_sem, *]
       · rfl
       · exact Go.Proofs.Try.call18
       · simp only [go_sem, encRing, *]; with_reducible rfl
       · simp only [go_sem, *]
       · first | assumption | ((with_reducible apply c_impl_RingOk) <;> first | assumption | rfl)
       · simp only [go_sem]; with_reducible rfl)
    | (with_reducible apply al_s hT true
       · first | exact gchk_none rfl | simp only [go_sem, *]
       · simp only [go_sem, encRing, *]; first | done | with_reducible rfl)
    | (with_reducible apply al_skip
       · simp only [go_sem, *]
       · simp only [go_sem]; with_reducible rfl)
    )
    all_goals ((simp only [go_sem, *]); first | done | rfl)
  by_cases hneg : atI r.subs id < 0
  · have hg : decide (atI r.subs id < 0) = true := decide_eq_true hneg
    have hv : lagV r id = .tup [.int .i64 0, .int .i64 0, .bool false] := by
      have : lagC r id = false := by rw [lagC, decide_eq_false (p := 0 ≤ atI r.subs id) (by omega), Bool.and_false]
      simp [lagV, lagA, lagB, this]
    rw [hv]
    clear hv
    refine sound_body hT Go.Proofs.Try.func21 rfl ?_
    rw [Go.Proofs.Try.results21, Go.Proofs.Try.ntmps21]
    simp only [frame, List.length_cons, List.length_nil, List.replicate, List.cons_append, List.nil_append, Nat.reduceAdd, Nat.reduceSub]
    repeat' (first
    | with_reducible first | refine aw_seq ?_ | refine aw_block ?_ | refine aw_skip ?_ | refine aw_exit ?_
    | with_reducible first | refine aw_ret ?_ | refine thenA_n ?_ | refine thenA_r ?_ | refine thenA_x ?_ | refine blockA_n ?_ | refine blockA_r ?_ | refine blockA_e ?_ | refine blockA_x (by decide) ?_ | refine ends_r ?_ | refine ends_n ?_ | refine ends_rM ?_ | refine ends_nM ?_ | refine aw_reg ?_
    | with_reducible refine al_nil ?_
    | (with_reducible apply aw_cond
       · simp only [go_sem, *]; with_reducible rfl
       all_goals (intro h; try simp only [Bool.not_eq_true', Bool.not_eq_false', reduceCtorEq] at h))
    | (with_reducible apply al_call (f := 80)
       · first | exact gchk_none rfl | simp only [go_sem, *]
       · rfl
       · exact Go.Proofs.Try.call80
       · simp only [go_sem, encRing, *]; with_reducible rfl
       · simp only [go_sem, *]
       · first | assumption | ((with_reducible apply c_impl_subAt) <;> first | assumption | rfl)
       · simp only [go_sem]; with_reducible rfl)
    | (with_reducible apply al_call (f := 18)
       · first | exact gchk_none rfl | simp only [go_sem, *]
       · rfl
       · exact Go.Proofs.Try.call18
       · simp only [go_sem, encRing, *]; with_reducible rfl
       · simp only [go_sem, *]
       · first | assumption | ((with_reducible apply c_impl_RingOk) <;> first | assumption | rfl)
       · simp only [go_sem]; with_reducible rfl)
    | (with_reducible apply al_s hT true
       · first | exact gchk_none rfl | simp only [go_sem, *]
       · simp only [go_sem, encRing, *]; first | done | with_reducible rfl)
    )
    all_goals ((simp only [go_sem, *]); first | done | rfl)
  · obtain ⟨k, s, hk, hkl, hks, _⟩ := atI_at (f := r.subs) (id := id) (by omega)
    have hg : decide ((k : Int) < 0) = false := decide_eq_false (by omega)
    have hI := ringIs hB
    have hs := hI.at hks
    have hc : curI r id = s.cursor := by simp only [curI, hk, Int.toNat_natCast, hks]
    have hv : lagV r id = .tup [.int .i64 (r.sent - s.cursor), .int .i64 (if 0 > r.sent - r.cap - s.cursor then 0 else r.sent - r.cap - s.cursor), .bool true] := by
      have : lagC r id = true := by simp [lagC, hB]; omega
      simp only [lagV, lagA, lagB, this, if_true, hc]
    have := hI.cap1; have := hI.cap2; have := hI.sent1; have := hI.sent2; have := hs.start; have := hs.cur1; have := hs.cur2
    have w1 : IntKind.i64.wrap (r.sent - s.cursor) = r.sent - s.cursor := by rw [wrap_small] <;> omega
    have w2 : IntKind.i64.wrap (r.sent - r.cap) = r.sent - r.cap := by rw [wrap_small] <;> omega
    have w3 : IntKind.i64.wrap (r.sent - r.cap - s.cursor) = r.sent - r.cap - s.cursor := by rw [wrap_small] <;> omega
    have hk0 : (0 : Int) ≤ (k : Int) := by omega
    have hk1 : (k : Int) < (r.subs.length : Int) := by omega
    rw [hv]
    clear hv hI hs hc
    refine sound_body hT Go.Proofs.Try.func21 rfl ?_
    rw [Go.Proofs.Try.results21, Go.Proofs.Try.ntmps21]
    simp only [frame, List.length_cons, List.length_nil, List.replicate, List.cons_append, List.nil_append, Nat.reduceAdd, Nat.reduceSub]
    repeat' (first
    | with_reducible first | refine aw_seq ?_ | refine aw_block ?_ | refine aw_skip ?_ | refine aw_exit ?_
    | with_reducible first | refine aw_ret ?_ | refine thenA_n ?_ | refine thenA_r ?_ | refine thenA_x ?_ | refine blockA_n ?_ | refine blockA_r ?_ | refine blockA_e ?_ | refine blockA_x (by decide) ?_ | refine ends_r ?_ | refine ends_n ?_ | refine ends_rM ?_ | refine ends_nM ?_ | refine aw_reg ?_
    | (with_reducible apply aw_anyW (id := 5) [[], [0], [], [0, 1, 2], [], [4], [], [6], [4, 5, 6, 7], [], [4, 5, 6, 7, 8, 9], [4, 5, 6, 7, 8, 9, 10], [0, 1, 2, 3], [0, 1, 2, 3, 4, 5, 6, 7, 8, 9, 10, 11, 12], [0, 1, 2, 3, 4, 5, 6, 7, 8, 9, 10, 11, 12, 13]] [[(25, _)], [(26, _)], [(27, _)], [(28, _)], [(29, _)], [(30, _)], [(31, _)], [(32, _)], [(33, _)], [(34, _)], [(35, _)], [(36, _)], [(4, _)], [(5, _)], [(6, _)]] hT
       · decide +kernel
       · skip
         with_reducible refine steps_cons (fun D hk hd => ?_) ?_
         · try simp only [go_sem, allT, Option.getD_some] at hd
           simp only [fillW, putIfs, putIf, cond_true, also, Nat.reduceBEq, cond_false, Nat.reduceAdd, hd, hk]
           exact as_q hT (gchk_none rfl) (by simp only [go_sem, encRing, encSub, *]; with_reducible rfl) (by simp only [go_sem]; with_reducible rfl)
         with_reducible refine steps_cons (fun D hk hd => ?_) ?_
         · try simp only [go_sem, allT, Option.getD_some] at hd
           simp only [fillW, putIfs, putIf, cond_true, also, Nat.reduceBEq, cond_false, Nat.reduceAdd, hd, hk]
           exact as_q hT (gchk_none rfl) (by simp only [go_sem, encRing, encSub, *]; with_reducible rfl) (by simp only [go_sem]; with_reducible rfl)
         with_reducible refine steps_cons (fun D hk hd => ?_) ?_
         · try simp only [go_sem, allT, Option.getD_some] at hd
           simp only [fillW, putIfs, putIf, cond_true, also, Nat.reduceBEq, cond_false, Nat.reduceAdd, hd, hk]
           exact as_q hT (gchk_none rfl) (by simp only [go_sem, encRing, encSub, *]; with_reducible rfl) (by simp only [go_sem]; with_reducible rfl)
         with_reducible refine steps_cons (fun D hk hd => ?_) ?_
         · try simp only [go_sem, allT, Option.getD_some] at hd
           simp only [fillW, putIfs, putIf, cond_true, also, Nat.reduceBEq, cond_false, Nat.reduceAdd, hd, hk]
           exact as_q hT (gchk_none rfl) (by simp only [go_sem, encRing, encSub, *]; with_reducible rfl) (by simp only [go_sem]; with_reducible rfl)
         with_reducible refine steps_cons (fun D hk hd => ?_) ?_
         · try simp only [go_sem, allT, Option.getD_some] at hd
           simp only [fillW, putIfs, putIf, cond_true, also, Nat.reduceBEq, cond_false, Nat.reduceAdd, hd, hk]
           exact as_q hT (gchk_none rfl) (by simp only [go_sem, encRing, encSub, *]; with_reducible rfl) (by simp only [go_sem]; with_reducible rfl)
         with_reducible refine steps_cons (fun D hk hd => ?_) ?_
         · try simp only [go_sem, allT, Option.getD_some] at hd
           simp only [fillW, putIfs, putIf, cond_true, also, Nat.reduceBEq, cond_false, Nat.reduceAdd, hd, hk]
           exact as_q hT (gchk_none rfl) (by simp only [go_sem, encRing, encSub, *]; with_reducible rfl) (by simp only [go_sem]; with_reducible rfl)
         with_reducible refine steps_cons (fun D hk hd => ?_) ?_
         · try simp only [go_sem, allT, Option.getD_some] at hd
           simp only [fillW, putIfs, putIf, cond_true, also, Nat.reduceBEq, cond_false, Nat.reduceAdd, hd, hk]
           exact as_q hT (gchk_none rfl) (by simp only [go_sem, encRing, encSub, *]; with_reducible rfl) (by simp only [go_sem]; with_reducible rfl)
         with_reducible refine steps_cons (fun D hk hd => ?_) ?_
         · try simp only [go_sem, allT, Option.getD_some] at hd
           simp only [fillW, putIfs, putIf, cond_true, also, Nat.reduceBEq, cond_false, Nat.reduceAdd, hd, hk]
           exact as_q hT (gchk_none rfl) (by simp only [go_sem, encRing, encSub, *]; with_reducible rfl) (by simp only [go_sem]; with_reducible rfl)
         with_reducible refine steps_cons (fun D hk hd => ?_) ?_
         · try simp only [go_sem, allT, Option.getD_some] at hd
           simp only [fillW, putIfs, putIf, cond_true, also, Nat.reduceBEq, cond_false, Nat.reduceAdd, hd, hk]
           exact as_q hT (gchk_none rfl) (by simp only [go_sem, encRing, encSub, *]; with_reducible rfl) (by simp only [go_sem]; with_reducible rfl)
         with_reducible refine steps_cons (fun D hk hd => ?_) ?_
         · try simp only [go_sem, allT, Option.getD_some] at hd
           simp only [fillW, putIfs, putIf, cond_true, also, Nat.reduceBEq, cond_false, Nat.reduceAdd, hd, hk]
           exact as_q hT (gchk_none rfl) (by simp only [go_sem, encRing, encSub, *]; with_reducible rfl) (by simp only [go_sem]; with_reducible rfl)
         with_reducible refine steps_cons (fun D hk hd => ?_) ?_
         · try simp only [go_sem, allT, Option.getD_some] at hd
           simp only [fillW, putIfs, putIf, cond_true, also, Nat.reduceBEq, cond_false, Nat.reduceAdd, hd, hk]
           exact as_q hT (gchk_none rfl) (by simp only [go_sem, encRing, encSub, *]; with_reducible rfl) (by simp only [go_sem]; with_reducible rfl)
         with_reducible refine steps_cons (fun D hk hd => ?_) ?_
         · try simp only [go_sem, allT, Option.getD_some] at hd
           simp only [fillW, putIfs, putIf, cond_true, also, Nat.reduceBEq, cond_false, Nat.reduceAdd, hd, hk]
           exact as_s hT true (gchk_none rfl) (by simp only [go_sem, encRing, encSub, *]; with_reducible rfl)
         with_reducible refine steps_cons (fun D hk hd => ?_) ?_
         · try simp only [go_sem, allT, Option.getD_some] at hd
           simp only [fillW, putIfs, putIf, cond_true, also, Nat.reduceBEq, cond_false, Nat.reduceAdd, hd, hk]
           exact as_s hT true (gchk_none rfl) (by simp only [go_sem, encRing, encSub, *]; with_reducible rfl)
         with_reducible refine steps_cons (fun D hk hd => ?_) ?_
         · try simp only [go_sem, allT, Option.getD_some] at hd
           simp only [fillW, putIfs, putIf, cond_true, also, Nat.reduceBEq, cond_false, Nat.reduceAdd, hd, hk]
           exact as_s hT true (gchk_none rfl) (by simp only [go_sem, encRing, encSub, *]; with_reducible rfl)
         with_reducible refine steps_cons (fun D hk hd => ?_) ?_
         · try simp only [go_sem, allT, Option.getD_some] at hd
           simp only [fillW, putIfs, putIf, cond_true, also, Nat.reduceBEq, cond_false, Nat.reduceAdd, hd, hk]
           exact as_s hT true (gchk_none rfl) (by simp only [go_sem, encRing, encSub, *]; with_reducible rfl)
         exact steps_nil
       · rfl
       simp only [fillW, putIfs, putIf, cond_true])
    | with_reducible refine al_nil ?_
    | (with_reducible apply aw_cond
       · simp only [go_sem, *]; with_reducible rfl
       all_goals (intro h; try simp only [Bool.not_eq_true', Bool.not_eq_false', reduceCtorEq] at h))
    | (with_reducible apply al_call (f := 80)
       · first | exact gchk_none rfl | simp only [go_sem, *]
       · rfl
       · exact Go.Proofs.Try.call80
       · simp only [go_sem, encRing, encSub, *]; with_reducible rfl
       · simp only [go_sem, *]
       · first | assumption | ((with_reducible apply c_impl_subAt) <;> first | assumption | rfl)
       · simp only [go_sem]; with_reducible rfl)
    | (with_reducible apply al_call (f := 18)
       · first | exact gchk_none rfl | simp only [go_sem, *]
       · rfl
       · exact Go.Proofs.Try.call18
       · simp only [go_sem, encRing, encSub, *]; with_reducible rfl
       · simp only [go_sem, *]
       · first | assumption | ((with_reducible apply c_impl_RingOk) <;> first | assumption | rfl)
       · simp only [go_sem]; with_reducible rfl)
    | (with_reducible apply al_s hT true
       · first | exact gchk_none rfl | simp only [go_sem, *]
       · simp only [go_sem, encRing, encSub, *]; first | done | with_reducible rfl)
    )
    all_goals ((simp only [go_sem, *]); first | done | rfl)

/-- The sum of something over the first. -/
def sumI (g : SubV → Int) (f : List SubV) : Int := f.foldl (fun a s => a + g s) 0
theorem sumI_succ {g : SubV → Int} {f : List SubV} {i : Nat} {s : SubV} (h : f[i]? = some s) : sumI g (f.take (i + 1)) = sumI g (f.take i) + g s := by
  unfold sumI
  rw [List.take_add_one, h, Option.toList_some, List.foldl_append]; rfl
theorem sumI_in {g : SubV → Int} {f : List SubV} (h : ∀ s ∈ f, 0 ≤ g s ∧ g s ≤ 1000000000) : ∀ i, i ≤ f.length → 0 ≤ sumI g (f.take i) ∧ sumI g (f.take i) ≤ 1000000000 * i := by
  intro i
  induction i with
  | zero => intro _; simp [sumI]
  | succ i ih =>
    intro hi
    have hs : f[i]? = some f[i] := List.getElem?_eq_getElem _
    rw [sumI_succ hs]
    have := h f[i] (List.getElem_mem _)
    have := ih (by omega)
    omega
def balV (r : RingV) : AV := if ringB r then .tup [.int .i64 (sumI (·.got) r.subs), .int .i64 (sumI (·.lost) r.subs), .int .i64 (sumI (·.passed) r.subs)] else .tup [.int .i64 0, .int .i64 0, .int .i64 0]
theorem bal_step {r : RingV} (hB : ringB r = true) {i : Nat} {s : SubV} (h : r.subs[i]? = some s) :
    IntKind.i64.wrap (sumI (·.got) (r.subs.take i) + s.got) = sumI (·.got) (r.subs.take (i + 1)) ∧ IntKind.i64.wrap (sumI (·.lost) (r.subs.take i) + s.lost) = sumI (·.lost) (r.subs.take (i + 1)) ∧
      IntKind.i64.wrap (sumI (·.passed) (r.subs.take i) + s.passed) = sumI (·.passed) (r.subs.take (i + 1)) := by
  have hI := ringIs hB
  have hlt := (List.getElem?_eq_some_iff.1 h).1
  have := hI.subs
  have hin : ∀ s ∈ r.subs, (0 ≤ s.got ∧ s.got ≤ 1000000000) ∧ (0 ≤ s.lost ∧ s.lost ≤ 1000000000) ∧ (0 ≤ s.passed ∧ s.passed ≤ 1000000000) := by
    intro s hs
    obtain ⟨j, hj⟩ := List.getElem?_of_mem hs
    have hs := hI.at hj
    have := hs.start; have := hs.cur1; have := hs.cur2; have := hs.got1; have := hs.got2; have := hs.lost1; have := hs.lost2; have := hs.pass1; have := hs.pass2; have := hI.sent2
    omega
  have a := sumI_in (g := (·.got)) (fun s hs => (hin s hs).1) (i + 1) (by omega)
  have b := sumI_in (g := (·.lost)) (fun s hs => (hin s hs).2.1) (i + 1) (by omega)
  have c := sumI_in (g := (·.passed)) (fun s hs => (hin s hs).2.2) (i + 1) (by omega)
  rw [sumI_succ h] at a b c ⊢
  rw [sumI_succ h, sumI_succ h]
  try simp only at a b c ⊢
  refine ⟨?_, ?_, ?_⟩ <;> rw [wrap_small] <;> omega
theorem c_impl_Balance (r : RingV) {u : AV} (hu : u = encRing false r) (hr : okRing r) (h1 : r.line.length ≤ 1048576) (h2 : r.grants.length ≤ 1048576) : Sound P 23 [u] (balV r) := by
  subst hu
  have hl : r.subs.length < 4611686018427387904 := hr.2.1.1
  cases hB : ringB r
  · rw [balV, hB]
    refine sound_body hT Go.Proofs.Try.func23 rfl ?_
    rw [Go.Proofs.Try.results23, Go.Proofs.Try.ntmps23]
    simp only [frame, List.length_cons, List.length_nil, List.replicate, List.cons_append, List.nil_append, Nat.reduceAdd, Nat.reduceSub]
    repeat' (first
    | with_reducible first | refine aw_seq ?_ | refine aw_block ?_ | refine aw_skip ?_ | refine aw_exit ?_
    | with_reducible first | refine aw_ret ?_ | refine thenA_n ?_ | refine thenA_r ?_ | refine thenA_x ?_ | refine blockA_n ?_ | refine blockA_r ?_ | refine blockA_e ?_ | refine blockA_x (by decide) ?_ | refine ends_r ?_ | refine ends_n ?_ | refine ends_rM ?_ | refine ends_nM ?_ | refine aw_reg ?_
    | with_reducible refine al_nil ?_
    | (with_reducible apply aw_cond
       · simp only [go_sem, *]; with_reducible rfl
       all_goals (intro h; try simp only [Bool.not_eq_true', Bool.not_eq_false', reduceCtorEq] at h))
    | (with_reducible apply al_call (f := 18)
       · first | exact gchk_none rfl | simp only [go_sem, *]
       · rfl
       · exact Go.Proofs.Try.call18
       · simp only [go_sem, encRing, *]; with_reducible rfl
       · simp only [go_sem, *]
       · first | assumption | ((with_reducible apply c_impl_RingOk) <;> first | assumption | rfl)
       · simp only [go_sem]; with_reducible rfl)
    | (with_reducible apply al_s hT true
       · first | exact gchk_none rfl | simp only [go_sem, *]
       · simp only [go_sem, encRing, *]; first | done | with_reducible rfl)
    )
    all_goals ((simp only [go_sem, *]); first | done | rfl)
  rw [balV, hB, if_pos rfl]
  refine sound_body hT Go.Proofs.Try.func23 rfl ?_
  rw [Go.Proofs.Try.results23, Go.Proofs.Try.ntmps23]
  simp only [frame, List.length_cons, List.length_nil, List.replicate, List.cons_append, List.nil_append, Nat.reduceAdd, Nat.reduceSub]
  repeat' (first
  | with_reducible first | refine aw_seq ?_ | refine aw_block ?_ | refine aw_skip ?_ | refine aw_exit ?_
  | with_reducible first | refine aw_ret ?_ | refine thenA_n ?_ | refine thenA_r ?_ | refine thenA_x ?_ | refine blockA_n ?_ | refine blockA_r ?_ | refine blockA_e ?_ | refine blockA_x (by decide) ?_ | refine ends_r ?_ | refine ends_n ?_ | refine ends_rM ?_ | refine ends_nM ?_ | refine aw_reg ?_
  | with_reducible refine al_nil ?_
  | (with_reducible apply aw_cond
     · simp only [go_sem, *]; with_reducible rfl
     all_goals (intro h; try simp only [Bool.not_eq_true', Bool.not_eq_false', reduceCtorEq] at h))
  | (with_reducible apply al_call (f := 18)
     · first | exact gchk_none rfl | simp only [go_sem, *]
     · rfl
     · exact Go.Proofs.Try.call18
     · simp only [go_sem, encRing, *]; with_reducible rfl
     · simp only [go_sem, *]
     · first | assumption | ((with_reducible apply c_impl_RingOk) <;> first | assumption | rfl)
     · simp only [go_sem]; with_reducible rfl)
  | (with_reducible apply al_s hT true
     · first | exact gchk_none rfl | simp only [go_sem, *]
     · simp only [go_sem, encRing, *]; first | done | with_reducible rfl)
  )
  refine aw_loop [2, 3, 4, 8, 9, 10, 11, 12, 13, 14, 15, 16, 20, 21, 22, 23, 24, 25, 26, 27, 28, 29, 30, 31, 32, 33, 34, 35, 36, 37, 38] (fun n S => ∃ i : Nat, n = r.subs.length - i ∧ i ≤ r.subs.length ∧ S = [encRing false r, .box (encRing false r), .undef, .undef, .undef, .int .i64 (sumI (·.got) (r.subs.take i)), .int .i64 (sumI (·.lost) (r.subs.take i)), .int .i64 (sumI (·.passed) (r.subs.take i)), .undef, .undef, .undef, .undef, .undef, .undef, .undef, .undef, .undef, .lst false 7 (r.subs.map (encSub false)), .int .i64 r.subs.length, .int .i64 i, .undef, .undef, .undef, .undef, .undef, .undef, .undef, .undef, .undef, .undef, .undef, .undef, .undef, .undef, .undef, .undef, .undef, .undef, .undef]) r.subs.length ?_ ?_
  · refine ⟨0, by simp, by omega, ?_⟩
    simp only [clr, go_sem]
    first | done | rfl
  rintro n S ⟨i, hn, hi, rfl⟩
  have hwi : IntKind.i64.wrap ((i : Int) + 1) = ((i + 1 : Nat) : Int) := by rw [wrap_small] <;> omega
  by_cases hlt : i < r.subs.length
  · have hd : decide ((i : Int) < (r.subs.length : Int)) = true := by simp [hlt]
    obtain ⟨s, hsi⟩ : ∃ s, r.subs[i]? = some s := ⟨r.subs[i], by simp [hlt]⟩
    obtain ⟨b1, b2, b3⟩ := bal_step hB hsi
    repeat' (first
    | with_reducible first | refine aw_seq ?_ | refine aw_block ?_ | refine aw_skip ?_ | refine aw_exit ?_
    | with_reducible first | refine aw_ret ?_ | refine thenA_n ?_ | refine thenA_r ?_ | refine thenA_x ?_ | refine blockA_n ?_ | refine blockA_r ?_ | refine blockA_e ?_ | refine blockA_x (by decide) ?_ | refine ends_r ?_ | refine ends_n ?_ | refine ends_rM ?_ | refine ends_nM ?_ | refine aw_reg ?_
    | with_reducible refine al_nil ?_
    | (with_reducible apply aw_cond
       · simp only [go_sem, *]; with_reducible rfl
       all_goals (intro h; try simp only [Bool.not_eq_true', Bool.not_eq_false', reduceCtorEq] at h))
    | (with_reducible apply al_s hT true
       · first | exact gchk_none rfl | simp only [go_sem, *]
       · simp only [go_sem, encRing, encSub, *]; first | done | with_reducible rfl)
    )
    all_goals (
      refine ⟨r.subs.length - (i + 1), by omega, i + 1, rfl, by omega, ?_⟩
      simp only [clr, go_sem]
      first | done | rfl)
  · have hd : decide ((i : Int) < (r.subs.length : Int)) = false := by simp; omega
    have ht : r.subs.take i = r.subs := List.take_of_length_le (by omega)
    rw [ht]
    clear ht
    repeat' (first
    | with_reducible first | refine aw_seq ?_ | refine aw_block ?_ | refine aw_skip ?_ | refine aw_exit ?_
    | with_reducible first | refine aw_ret ?_ | refine thenA_n ?_ | refine thenA_r ?_ | refine thenA_x ?_ | refine blockA_n ?_ | refine blockA_r ?_ | refine blockA_e ?_ | refine blockA_x (by decide) ?_ | refine ends_r ?_ | refine ends_n ?_ | refine ends_rM ?_ | refine ends_nM ?_ | refine aw_reg ?_
    | with_reducible refine al_nil ?_
    | (with_reducible apply aw_cond
       · simp only [go_sem, *]; with_reducible rfl
       all_goals (intro h; try simp only [Bool.not_eq_true', Bool.not_eq_false', reduceCtorEq] at h))
    | (with_reducible apply al_s hT true
       · first | exact gchk_none rfl | simp only [go_sem, *]
       · simp only [go_sem, encRing, *]; first | done | with_reducible rfl)
    )
    all_goals ((simp only [go_sem, *]); first | done | rfl)
end Go.Proofs.Ytcgkejggkenecaa
