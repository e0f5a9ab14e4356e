/- Contracts: Lag and Balance, of the specification. -/
import Derived.Test.YtcgkejggkenecaaFnSs
import Derived.Test.YtcgkejggkenecaaFnLi
namespace Go.Proofs.Ytcgkejggkenecaa
open Go Go.RowKit Go.Bv
set_option linter.unusedSimpArgs false
set_option linter.unusedVariables false
set_option maxRecDepth 4000
set_option maxHeartbeats 1000000

theorem c_spec_Lag (r : RingV) (id : Int) {u : AV} (hu : u = encRing false r) (hr : okRing r) (h1 : r.line.length ≤ 1048576) (h2 : r.grants.length ≤ 1048576) (h3 : r.items.length ≤ 1048576) : Sound P 20 [u, .int .i64 id] (lagV r id) := by
  subst hu
  have hl : r.subs.length < 4611686018427387904 := hr.2.1.1
  cases hB : ringB r
  · have hv : lagV r id = .tup [.int .i64 0, .int .i64 0, .bool false] := by simp [lagV, lagA, lagB, lagC, hB]
    rw [hv]
    clear hv
    refine sound_body hT Go.Proofs.Try.func20 rfl ?_
    rw [Go.Proofs.Try.results20, Go.Proofs.Try.ntmps20]
    simp only [frame, List.length_cons, List.length_nil, List.replicate, List.cons_append, List.nil_append, Nat.reduceAdd, Nat.reduceSub]
    repeat' (first
    | with_reducible first | refine aw_seq ?_ | refine aw_block ?_ | refine aw_skip ?_ | refine aw_exit ?_
    | with_reducible first | refine aw_ret ?_ | refine thenA_n ?_ | refine thenA_r ?_ | refine thenA_x ?_ | refine blockA_n ?_ | refine blockA_r ?_ | refine blockA_e ?_ | refine blockA_x (by decide) ?_ | refine ends_r ?_ | refine ends_n ?_ | refine ends_rM ?_ | refine ends_nM ?_ | refine aw_reg ?_
    | with_reducible refine al_nil ?_
    | (with_reducible apply aw_cond
       · simp only [go_sem, *]; with_reducible rfl
       all_goals (intro h; try simp only [Bool.not_eq_true', Bool.not_eq_false', reduceCtorEq] at h))
    | (with_reducible apply al_call (f := 65)
       · first | exact gchk_none rfl | simp only [go_sem, *]
       · rfl
       · exact Go.Proofs.Try.call65
       · simp only [go_sem, encRing, *]; with_reducible rfl
       · simp only [go_sem, *]
       · first | assumption | ((with_reducible apply c_spec_l9At) <;> first | assumption | rfl)
       · simp only [go_sem]; with_reducible rfl)
    | (with_reducible apply al_call (f := 16)
       · first | exact gchk_none rfl | simp only [go_sem, *]
       · rfl
       · exact Go.Proofs.Try.call16
       · simp only [go_sem, encRing, *]; with_reducible rfl
       · simp only [go_sem, *]
       · first | assumption | ((with_reducible apply c_spec_RingOk) <;> first | assumption | rfl)
       · simp only [go_sem]; with_reducible rfl)
    | (with_reducible apply al_s hT true
       · first | exact gchk_none rfl | simp only [go_sem, *]
       · simp only [go_sem, encRing, *]; first | done | with_reducible rfl)
    | (with_reducible apply al_skip
       · simp only [go_sem, *]
       · simp only [go_sem]; with_reducible rfl)
    )
    all_goals ((simp only [go_sem, *]); first | done | rfl)
  by_cases hneg : atI r.subs id < 0
  · have hg : decide (atI r.subs id < 0) = true := decide_eq_true hneg
    have hv : lagV r id = .tup [.int .i64 0, .int .i64 0, .bool false] := by
      have : lagC r id = false := by rw [lagC, decide_eq_false (p := 0 ≤ atI r.subs id) (by omega), Bool.and_false]
      simp [lagV, lagA, lagB, this]
    rw [hv]
    clear hv
    refine sound_body hT Go.Proofs.Try.func20 rfl ?_
    rw [Go.Proofs.Try.results20, Go.Proofs.Try.ntmps20]
    simp only [frame, List.length_cons, List.length_nil, List.replicate, List.cons_append, List.nil_append, Nat.reduceAdd, Nat.reduceSub]
    repeat' (first
    | with_reducible first | refine aw_seq ?_ | refine aw_block ?_ | refine aw_skip ?_ | refine aw_exit ?_
    | with_reducible first | refine aw_ret ?_ | refine thenA_n ?_ | refine thenA_r ?_ | refine thenA_x ?_ | refine blockA_n ?_ | refine blockA_r ?_ | refine blockA_e ?_ | refine blockA_x (by decide) ?_ | refine ends_r ?_ | refine ends_n ?_ | refine ends_rM ?_ | refine ends_nM ?_ | refine aw_reg ?_
    | with_reducible refine al_nil ?_
    | (with_reducible apply aw_cond
       · simp only [go_sem, *]; with_reducible rfl
       all_goals (intro h; try simp only [Bool.not_eq_true', Bool.not_eq_false', reduceCtorEq] at h))
    | (with_reducible apply al_call (f := 65)
       · first | exact gchk_none rfl | simp only [go_sem, *]
       · rfl
       · exact Go.Proofs.Try.call65
       · simp only [go_sem, encRing, *]; with_reducible rfl
       · simp only [go_sem, *]
       · first | assumption | ((with_reducible apply c_spec_l9At) <;> first | assumption | rfl)
       · simp only [go_sem]; with_reducible rfl)
    | (with_reducible apply al_call (f := 16)
       · first | exact gchk_none rfl | simp only [go_sem, *]
       · rfl
       · exact Go.Proofs.Try.call16
       · simp only [go_sem, encRing, *]; with_reducible rfl
       · simp only [go_sem, *]
       · first | assumption | ((with_reducible apply c_spec_RingOk) <;> first | assumption | rfl)
       · simp only [go_sem]; with_reducible rfl)
    | (with_reducible apply al_s hT true
       · first | exact gchk_none rfl | simp only [go_sem, *]
       · simp only [go_sem, encRing, *]; first | done | with_reducible rfl)
    )
    all_goals ((simp only [go_sem, *]); first | done | rfl)
  · obtain ⟨k, s, hk, hkl, hks, _⟩ := atI_at (f := r.subs) (id := id) (by omega)
    have hg : decide ((k : Int) < 0) = false := decide_eq_false (by omega)
    have hI := ringIs hB
    have hs := hI.at hks
    have hc : curI r id = s.cursor := by simp only [curI, hk, Int.toNat_natCast, hks]
    have hv : lagV r id = .tup [.int .i64 (r.sent - s.cursor), .int .i64 (if 0 > r.sent - r.cap - s.cursor then 0 else r.sent - r.cap - s.cursor), .bool true] := by
      have : lagC r id = true := by simp [lagC, hB]; omega
      simp only [lagV, lagA, lagB, this, if_true, hc]
    have := hI.cap1; have := hI.cap2; have := hI.sent1; have := hI.sent2; have := hs.start; have := hs.cur1; have := hs.cur2
    have w1 : IntKind.i64.wrap (r.sent - s.cursor) = r.sent - s.cursor := by rw [wrap_small] <;> omega
    have w2 : IntKind.i64.wrap (r.sent - r.cap) = r.sent - r.cap := by rw [wrap_small] <;> omega
    have w3 : IntKind.i64.wrap (r.sent - r.cap - s.cursor) = r.sent - r.cap - s.cursor := by rw [wrap_small] <;> omega
    have hk0 : (0 : Int) ≤ (k : Int) := by omega
    have hk1 : (k : Int) < (r.subs.length : Int) := by omega
    rw [hv]
    clear hv hI hs hc
    by_cases hgn : r.sent - r.cap - s.cursor < 0
    · have hgd : decide (r.sent - r.cap - s.cursor < 0) = true := decide_eq_true hgn
      rw [if_pos (by omega)]
      refine sound_body hT Go.Proofs.Try.func20 rfl ?_
      rw [Go.Proofs.Try.results20, Go.Proofs.Try.ntmps20]
      simp only [frame, List.length_cons, List.length_nil, List.replicate, List.cons_append, List.nil_append, Nat.reduceAdd, Nat.reduceSub]
      repeat' (first
      | with_reducible first | refine aw_seq ?_ | refine aw_block ?_ | refine aw_skip ?_ | refine aw_exit ?_
      | with_reducible first | refine aw_ret ?_ | refine thenA_n ?_ | refine thenA_r ?_ | refine thenA_x ?_ | refine blockA_n ?_ | refine blockA_r ?_ | refine blockA_e ?_ | refine blockA_x (by decide) ?_ | refine ends_r ?_ | refine ends_n ?_ | refine ends_rM ?_ | refine ends_nM ?_ | refine aw_reg ?_
      | (with_reducible apply aw_anyS hT (id := 4) [[], [0], [], [2], [0, 1, 2, 3], [], [5], [], [5, 6, 7], [5, 6, 7, 8], [5, 6, 7, 8, 9], [0, 1, 2, 3, 4, 5, 6, 7, 8, 9, 10], [0, 1, 2, 3, 4, 5, 6, 7, 8, 9, 10, 11]] [19, 20, 21, 22, 23, 24, 25, 26, 27, 28, 29, 30, 8]
         · rfl
         · decide +kernel
         · decide +kernel
         · simp only [go_sem, *])
      | (with_reducible apply aw_anyS hT (id := 7) [[], [0], [], [2], [], [2, 3, 4], [2, 3, 4, 5], [2, 3, 4, 5, 6], [0, 1, 2, 3, 4, 5, 6, 7], [], [0, 1, 2, 3, 4, 5, 6, 7, 8], [0, 1, 2, 3, 4, 5, 6, 7, 8, 9, 10], [0, 1, 2, 3, 4, 5, 6, 7, 8, 9, 10, 11]] [33, 34, 35, 36, 37, 38, 39, 40, 41, 42, 4, 5, 6]
         · rfl
         · decide +kernel
         · decide +kernel
         · simp only [go_sem, *])
      | with_reducible refine al_nil ?_
      | (with_reducible apply aw_cond
         · simp only [go_sem, *]; with_reducible rfl
         all_goals (intro h; try simp only [Bool.not_eq_true', Bool.not_eq_false', reduceCtorEq] at h))
      | (with_reducible apply al_call (f := 65)
         · first | exact gchk_none rfl | simp only [go_sem, *]
         · rfl
         · exact Go.Proofs.Try.call65
         · simp only [go_sem, encRing, encSub, *]; with_reducible rfl
         · simp only [go_sem, *]
         · first | assumption | ((with_reducible apply c_spec_l9At) <;> first | assumption | rfl)
         · simp only [go_sem]; with_reducible rfl)
      | (with_reducible apply al_call (f := 16)
         · first | exact gchk_none rfl | simp only [go_sem, *]
         · rfl
         · exact Go.Proofs.Try.call16
         · simp only [go_sem, encRing, encSub, *]; with_reducible rfl
         · simp only [go_sem, *]
         · first | assumption | ((with_reducible apply c_spec_RingOk) <;> first | assumption | rfl)
         · simp only [go_sem]; with_reducible rfl)
      | with_reducible refine ad_nil ?_
      | (with_reducible apply ad_q hT
         · first | exact gchk_none rfl | simp only [go_sem, *]
         · simp only [go_sem, encRing, encSub, *]; first | done | with_reducible rfl
         · simp only [go_sem, *]
         · simp only [go_sem]; with_reducible rfl)
      | (with_reducible apply ad_assign
         · first | exact gchk_none rfl | simp only [go_sem, *]
         · rfl
         · simp only [go_sem, encRing, encSub, *]; with_reducible rfl
         · simp only [go_sem, *]
         · simp only [go_sem]; with_reducible rfl)
      | (with_reducible apply al_s hT true
         · first | exact gchk_none rfl | simp only [go_sem, *]
         · simp only [go_sem, encRing, encSub, *]; first | done | with_reducible rfl)
      )
      all_goals ((simp only [go_sem, *]); first | done | rfl)
    · have hgd : decide (r.sent - r.cap - s.cursor < 0) = false := decide_eq_false hgn
      rw [if_neg (by omega)]
      refine sound_body hT Go.Proofs.Try.func20 rfl ?_
      rw [Go.Proofs.Try.results20, Go.Proofs.Try.ntmps20]
      simp only [frame, List.length_cons, List.length_nil, List.replicate, List.cons_append, List.nil_append, Nat.reduceAdd, Nat.reduceSub]
      repeat' (first
      | with_reducible first | refine aw_seq ?_ | refine aw_block ?_ | refine aw_skip ?_ | refine aw_exit ?_
      | with_reducible first | refine aw_ret ?_ | refine thenA_n ?_ | refine thenA_r ?_ | refine thenA_x ?_ | refine blockA_n ?_ | refine blockA_r ?_ | refine blockA_e ?_ | refine blockA_x (by decide) ?_ | refine ends_r ?_ | refine ends_n ?_ | refine ends_rM ?_ | refine ends_nM ?_ | refine aw_reg ?_
      | (with_reducible apply aw_anyS hT (id := 4) [[], [0], [], [2], [0, 1, 2, 3], [], [5], [], [5, 6, 7], [5, 6, 7, 8], [5, 6, 7, 8, 9], [0, 1, 2, 3, 4, 5, 6, 7, 8, 9, 10], [0, 1, 2, 3, 4, 5, 6, 7, 8, 9, 10, 11]] [19, 20, 21, 22, 23, 24, 25, 26, 27, 28, 29, 30, 8]
         · rfl
         · decide +kernel
         · decide +kernel
         · simp only [go_sem, *])
      | (with_reducible apply aw_anyS hT (id := 7) [[], [0], [], [2], [], [2, 3, 4], [2, 3, 4, 5], [2, 3, 4, 5, 6], [0, 1, 2, 3, 4, 5, 6, 7], [], [0, 1, 2, 3, 4, 5, 6, 7, 8], [0, 1, 2, 3, 4, 5, 6, 7, 8, 9, 10], [0, 1, 2, 3, 4, 5, 6, 7, 8, 9, 10, 11]] [33, 34, 35, 36, 37, 38, 39, 40, 41, 42, 4, 5, 6]
         · rfl
         · decide +kernel
         · decide +kernel
         · simp only [go_sem, *])
      | with_reducible refine al_nil ?_
      | (with_reducible apply aw_cond
         · simp only [go_sem, *]; with_reducible rfl
         all_goals (intro h; try simp only [Bool.not_eq_true', Bool.not_eq_false', reduceCtorEq] at h))
      | (with_reducible apply al_call (f := 65)
         · first | exact gchk_none rfl | simp only [go_sem, *]
         · rfl
         · exact Go.Proofs.Try.call65
         · simp only [go_sem, encRing, encSub, *]; with_reducible rfl
         · simp only [go_sem, *]
         · first | assumption | ((with_reducible apply c_spec_l9At) <;> first | assumption | rfl)
         · simp only [go_sem]; with_reducible rfl)
      | (with_reducible apply al_call (f := 16)
         · first | exact gchk_none rfl | simp only [go_sem, *]
         · rfl
         · exact Go.Proofs.Try.call16
         · simp only [go_sem, encRing, encSub, *]; with_reducible rfl
         · simp only [go_sem, *]
         · first | assumption | ((with_reducible apply c_spec_RingOk) <;> first | assumption | rfl)
         · simp only [go_sem]; with_reducible rfl)
      | with_reducible refine ad_nil ?_
      | (with_reducible apply ad_q hT
         · first | exact gchk_none rfl | simp only [go_sem, *]
         · simp only [go_sem, encRing, encSub, *]; first | done | with_reducible rfl
         · simp only [go_sem, *]
         · simp only [go_sem]; with_reducible rfl)
      | (with_reducible apply ad_assign
         · first | exact gchk_none rfl | simp only [go_sem, *]
         · rfl
         · simp only [go_sem, encRing, encSub, *]; with_reducible rfl
         · simp only [go_sem, *]
         · simp only [go_sem]; with_reducible rfl)
      | (with_reducible apply al_s hT true
         · first | exact gchk_none rfl | simp only [go_sem, *]
         · simp only [go_sem, encRing, encSub, *]; first | done | with_reducible rfl)
      )
      all_goals ((simp only [go_sem, *]); first | done | rfl)
theorem c_spec_Balance (r : RingV) {u : AV} (hu : u = encRing false r) (hr : okRing r) (h1 : r.line.length ≤ 1048576) (h2 : r.grants.length ≤ 1048576) (h3 : r.items.length ≤ 1048576) : Sound P 22 [u] (balV r) := by
  subst hu
  have hl : r.subs.length < 4611686018427387904 := hr.2.1.1
  cases hB : ringB r
  · rw [balV, hB]
    refine sound_body hT Go.Proofs.Try.func22 rfl ?_
    rw [Go.Proofs.Try.results22, Go.Proofs.Try.ntmps22]
    simp only [frame, List.length_cons, List.length_nil, List.replicate, List.cons_append, List.nil_append, Nat.reduceAdd, Nat.reduceSub]
    repeat' (first
    | with_reducible first | refine aw_seq ?_ | refine aw_block ?_ | refine aw_skip ?_ | refine aw_exit ?_
    | with_reducible first | refine aw_ret ?_ | refine thenA_n ?_ | refine thenA_r ?_ | refine thenA_x ?_ | refine blockA_n ?_ | refine blockA_r ?_ | refine blockA_e ?_ | refine blockA_x (by decide) ?_ | refine ends_r ?_ | refine ends_n ?_ | refine ends_rM ?_ | refine ends_nM ?_ | refine aw_reg ?_
    | with_reducible refine al_nil ?_
    | (with_reducible apply aw_cond
       · simp only [go_sem, *]; with_reducible rfl
       all_goals (intro h; try simp only [Bool.not_eq_true', Bool.not_eq_false', reduceCtorEq] at h))
    | (with_reducible apply al_call (f := 16)
       · first | exact gchk_none rfl | simp only [go_sem, *]
       · rfl
       · exact Go.Proofs.Try.call16
       · simp only [go_sem, encRing, *]; with_reducible rfl
       · simp only [go_sem, *]
       · first | assumption | ((with_reducible apply c_spec_RingOk) <;> first | assumption | rfl)
       · simp only [go_sem]; with_reducible rfl)
    | (with_reducible apply al_s hT true
       · first | exact gchk_none rfl | simp only [go_sem, *]
       · simp only [go_sem, encRing, *]; first | done | with_reducible rfl)
    )
    all_goals ((simp only [go_sem, *]); first | done | rfl)
  rw [balV, hB, if_pos rfl]
  refine sound_body hT Go.Proofs.Try.func22 rfl ?_
  rw [Go.Proofs.Try.results22, Go.Proofs.Try.ntmps22]
  simp only [frame, List.length_cons, List.length_nil, List.replicate, List.cons_append, List.nil_append, Nat.reduceAdd, Nat.reduceSub]
  repeat' (first
  | with_reducible first | refine aw_seq ?_ | refine aw_block ?_ | refine aw_skip ?_ | refine aw_exit ?_
  | with_reducible first | refine aw_ret ?_ | refine thenA_n ?_ | refine thenA_r ?_ | refine thenA_x ?_ | refine blockA_n ?_ | refine blockA_r ?_ | refine blockA_e ?_ | refine blockA_x (by decide) ?_ | refine ends_r ?_ | refine ends_n ?_ | refine ends_rM ?_ | refine ends_nM ?_ | refine aw_reg ?_
  | with_reducible refine al_nil ?_
  | (with_reducible apply aw_cond
     · simp only [go_sem, *]; with_reducible rfl
     all_goals (intro h; try simp only [Bool.not_eq_true', Bool.not_eq_false', reduceCtorEq] at h))
  | (with_reducible apply al_call (f := 16)
     · first | exact gchk_none rfl | simp only [go_sem, *]
     · rfl
     · exact Go.Proofs.Try.call16
     · simp only [go_sem, encRing, *]; with_reducible rfl
     · simp only [go_sem, *]
     · first | assumption | ((with_reducible apply c_spec_RingOk) <;> first | assumption | rfl)
     · simp only [go_sem]; with_reducible rfl)
  | (with_reducible apply al_s hT true
     · first | exact gchk_none rfl | simp only [go_sem, *]
     · simp only [go_sem, encRing, *]; first | done | with_reducible rfl)
  )
  refine aw_loop [2, 3, 4, 9, 10, 11, 12, 13, 14, 15, 16, 17, 18, 19, 20, 21, 22, 23, 24, 25, 26, 27, 28, 29, 30, 31, 32, 33, 34, 35, 36, 37, 38, 39, 40, 41, 42, 43, 44, 45] (fun n S => ∃ i : Nat, n = r.subs.length - i ∧ i ≤ r.subs.length ∧ S = [encRing false r, .box (encRing false r), .undef, .undef, .undef, .int .i64 (sumI (·.got) (r.subs.take i)), .int .i64 (sumI (·.lost) (r.subs.take i)), .int .i64 (sumI (·.passed) (r.subs.take i)), .int .i64 i, .undef, .undef, .undef, .undef, .undef, .undef, .undef, .undef, .undef, .undef, .undef, .undef, .undef, .undef, .undef, .undef, .undef, .undef, .undef, .undef, .undef, .undef, .undef, .undef, .undef, .undef, .undef, .undef, .undef, .undef, .undef, .undef, .undef, .undef, .undef, .undef, .undef]) r.subs.length ?_ ?_
  · refine ⟨0, by simp, by omega, ?_⟩
    simp only [clr, go_sem]
    first | done | rfl
  rintro n S ⟨i, hn, hi, rfl⟩
  have hwi : IntKind.i64.wrap ((i : Int) + 1) = ((i + 1 : Nat) : Int) := by rw [wrap_small] <;> omega
  by_cases hlt : i < r.subs.length
  · have hd : decide ((i : Int) < (r.subs.length : Int)) = true := by simp [hlt]
    obtain ⟨s, hsi⟩ : ∃ s, r.subs[i]? = some s := ⟨r.subs[i], by simp [hlt]⟩
    obtain ⟨b1, b2, b3⟩ := bal_step hB hsi
    repeat' (first
    | with_reducible first | refine aw_seq ?_ | refine aw_block ?_ | refine aw_skip ?_ | refine aw_exit ?_
    | with_reducible first | refine aw_ret ?_ | refine thenA_n ?_ | refine thenA_r ?_ | refine thenA_x ?_ | refine blockA_n ?_ | refine blockA_r ?_ | refine blockA_e ?_ | refine blockA_x (by decide) ?_ | refine ends_r ?_ | refine ends_n ?_ | refine ends_rM ?_ | refine ends_nM ?_ | refine aw_reg ?_
    | with_reducible refine al_nil ?_
    | (with_reducible apply aw_cond
       · simp only [go_sem, *]; with_reducible rfl
       all_goals (intro h; try simp only [Bool.not_eq_true', Bool.not_eq_false', reduceCtorEq] at h))
    | (with_reducible apply al_s hT true
       · first | exact gchk_none rfl | simp only [go_sem, *]
       · simp only [go_sem, encRing, encSub, *]; first | done | with_reducible rfl)
    )
    all_goals (
      refine ⟨r.subs.length - (i + 1), by omega, i + 1, rfl, by omega, ?_⟩
      simp only [clr, go_sem]
      first | done | rfl)
  · have hd : decide ((i : Int) < (r.subs.length : Int)) = false := by simp; omega
    have ht : r.subs.take i = r.subs := List.take_of_length_le (by omega)
    rw [ht]
    clear ht
    repeat' (first
    | with_reducible first | refine aw_seq ?_ | refine aw_block ?_ | refine aw_skip ?_ | refine aw_exit ?_
    | with_reducible first | refine aw_ret ?_ | refine thenA_n ?_ | refine thenA_r ?_ | refine thenA_x ?_ | refine blockA_n ?_ | refine blockA_r ?_ | refine blockA_e ?_ | refine blockA_x (by decide) ?_ | refine ends_r ?_ | refine ends_n ?_ | refine ends_rM ?_ | refine ends_nM ?_ | refine aw_reg ?_
    | with_reducible refine al_nil ?_
    | (with_reducible apply aw_cond
       · simp only [go_sem, *]; with_reducible rfl
       all_goals (intro h; try simp only [Bool.not_eq_true', Bool.not_eq_false', reduceCtorEq] at h))
    | (with_reducible apply al_s hT true
       · first | exact gchk_none rfl | simp only [go_sem, *]
       · simp only [go_sem, encRing, *]; first | done | with_reducible rfl)
    )
    all_goals ((simp only [go_sem, *]); first | done | rfl)
end Go.Proofs.Ytcgkejggkenecaa
