/- Contracts: small functions of the filter. -/
import Derived.Test.YtjmodjanaeoiiaaFnT
namespace Go.Proofs.Ytjmodjanaeoiiaa
open Go Go.RowKit Go.Bv
set_option linter.unusedSimpArgs false
set_option linter.unusedVariables false
theorem c_spec_l1In (x a b : Int) : Sound P 61 [.int .i64 x, .int .i64 a, .int .i64 b] (.bool (decide (x ≥ a) && decide (x ≤ b))) := by
  refine sound_body hT Go.Proofs.Try.func61 rfl ?_
  rw [Go.Proofs.Try.results61, Go.Proofs.Try.ntmps61]
  simp only [frame, List.length_cons, List.length_nil, List.replicate, List.cons_append, List.nil_append, Nat.reduceAdd, Nat.reduceSub]
  repeat' (first
    | with_reducible refine aw_seq ?_
    | with_reducible refine aw_block ?_
    | with_reducible refine aw_skip ?_
    | with_reducible refine aw_exit ?_
    | with_reducible refine aw_ret ?_
    | with_reducible refine thenA_n ?_
    | with_reducible refine thenA_r ?_
    | with_reducible refine thenA_x ?_
    | with_reducible refine blockA_n ?_
    | with_reducible refine blockA_r ?_
    | with_reducible refine blockA_e ?_
    | with_reducible refine blockA_x (by decide) ?_
    | with_reducible refine ends_r ?_
    | with_reducible refine ends_n ?_
    | with_reducible refine aw_reg ?_
    | (with_reducible refine aw_any hT ?_ ?_
       · decide +kernel)
    | with_reducible refine al_nil ?_
    | (with_reducible apply aw_cond
       · simp only [ard, aview, List.getElem?_cons_succ, List.getElem?_cons_zero, *]; with_reducible rfl
       all_goals (intro h; try simp only [Bool.not_eq_true', Bool.not_eq_false', reduceCtorEq] at h))
    | (with_reducible apply al_s hT true
       · first | exact gchk_none rfl | simp only [gchk, graw, List.getElem?_toArray, List.getElem?_cons_succ, List.getElem?_cons_zero, Bool.not_true, Bool.not_false, *]
       · simp only [ast, qv, ard, aconst, arefs, arefss, aview, aviews, atake, atakes, true_or, or_true, or_self, and_self, and_true, true_and, not_false_eq_true, ne_eq, eq_self, aput, Bool.false_eq_true, if_false, if_true, List.getElem?_cons_succ, List.getElem?_cons_zero, rootableA, List.set, List.set_cons_succ, List.set_cons_zero, List.map_cons, List.map_nil, aun, menA, menAs, Bool.or_false, Bool.or_self, beq_self_eq_true, Nat.reduceBEq, reduceIte, binA, unA, convA, intBin, strBin, bndA, minA, maxA, ards, List.toList_toArray, List.getElem?_toArray, reduceCtorEq, aget, agetN, aset, asetR, asetN, asetq, asetc, aclr, rootA, scalarA, hitA, hitAs, List.any_nil, List.any_cons, List.isPrefixOf, List.nil_append, List.cons_append, List.append_nil, List.append_assoc, alen, alens, plA, plAs, fitsA, fieldOk, List.take_zero, List.take_succ_cons, List.take_nil, List.length_cons, List.length_nil, Nat.reduceAdd, Nat.reduceLT, Nat.reduceEqDiff, Nat.reduceBNe, Bool.and_self, Bool.and_true, Bool.true_and, Bool.not_true, Bool.not_false, bne_iff_ne, bne_self_eq_false, Nat.zero_add, Nat.add_zero, Int.toNat_natCast, List.getElem?_map, Option.map_some, List.length_replicate, List.length_map, List.length_set, List.length_append, Bool.or_true, Bool.true_or, beq_self_eq_true, Int.natCast_nonneg, Int.reduceBEq, Int.reduceBNe, Int.reduceLT, Int.reduceLE, Int.reduceGT, Int.reduceGE, Int.reduceAdd, Int.reduceSub, Int.reduceNeg, decide_true, decide_false, Bool.true_and, Bool.false_and, Bool.and_true, Bool.and_false, kind3, size3, *]
         first | done | with_reducible rfl)
    | (with_reducible apply al_q hT
       · first | exact gchk_none rfl | simp only [gchk, graw, List.getElem?_toArray, List.getElem?_cons_succ, List.getElem?_cons_zero, Bool.not_true, Bool.not_false, *]
       · simp only [ast, qv, ard, aconst, arefs, arefss, aview, aviews, atake, atakes, true_or, or_true, or_self, and_self, and_true, true_and, not_false_eq_true, ne_eq, eq_self, aput, Bool.false_eq_true, if_false, if_true, List.getElem?_cons_succ, List.getElem?_cons_zero, rootableA, List.set, List.set_cons_succ, List.set_cons_zero, List.map_cons, List.map_nil, aun, menA, menAs, Bool.or_false, Bool.or_self, beq_self_eq_true, Nat.reduceBEq, reduceIte, binA, unA, convA, intBin, strBin, bndA, minA, maxA, ards, List.toList_toArray, List.getElem?_toArray, reduceCtorEq, aget, agetN, aset, asetR, asetN, asetq, asetc, aclr, rootA, scalarA, hitA, hitAs, List.any_nil, List.any_cons, List.isPrefixOf, List.nil_append, List.cons_append, List.append_nil, List.append_assoc, alen, alens, plA, plAs, fitsA, fieldOk, List.take_zero, List.take_succ_cons, List.take_nil, List.length_cons, List.length_nil, Nat.reduceAdd, Nat.reduceLT, Nat.reduceEqDiff, Nat.reduceBNe, Bool.and_self, Bool.and_true, Bool.true_and, Bool.not_true, Bool.not_false, bne_iff_ne, bne_self_eq_false, Nat.zero_add, Nat.add_zero, Int.toNat_natCast, List.getElem?_map, Option.map_some, List.length_replicate, List.length_map, List.length_set, List.length_append, Bool.or_true, Bool.true_or, beq_self_eq_true, Int.natCast_nonneg, Int.reduceBEq, Int.reduceBNe, Int.reduceLT, Int.reduceLE, Int.reduceGT, Int.reduceGE, Int.reduceAdd, Int.reduceSub, Int.reduceNeg, decide_true, decide_false, Bool.true_and, Bool.false_and, Bool.and_true, Bool.and_false, kind3, size3, *]
         first | done | with_reducible rfl
       · simp only [aput, Bool.false_eq_true, if_false, if_true, List.getElem?_cons_succ, List.getElem?_cons_zero, rootableA, List.set, List.set_cons_succ, List.set_cons_zero, List.map_cons, List.map_nil, aun, menA, menAs, Bool.or_false, Bool.or_self, beq_self_eq_true, Nat.reduceBEq, reduceIte]; with_reducible rfl)
    | (with_reducible apply al_skip
       · simp only [gchk, graw, List.getElem?_toArray, List.getElem?_cons_succ, List.getElem?_cons_zero, Bool.not_true, Bool.not_false, *]
       · simp only [aput, Bool.false_eq_true, if_false, if_true, List.getElem?_cons_succ, List.getElem?_cons_zero, rootableA, List.set, List.set_cons_succ, List.set_cons_zero, List.map_cons, List.map_nil, aun, menA, menAs, Bool.or_false, Bool.or_self, beq_self_eq_true, Nat.reduceBEq, reduceIte]; with_reducible rfl)
    | (with_reducible apply al_caseT rfl
       · simp only [gchk, graw, List.getElem?_toArray, List.getElem?_cons_succ, List.getElem?_cons_zero, Bool.not_true, Bool.not_false, *]; with_reducible rfl
       · simp only [aput, Bool.false_eq_true, if_false, if_true, List.getElem?_cons_succ, List.getElem?_cons_zero, rootableA, List.set, List.set_cons_succ, List.set_cons_zero, List.map_cons, List.map_nil, aun, menA, menAs, Bool.or_false, Bool.or_self, beq_self_eq_true, Nat.reduceBEq, reduceIte]; with_reducible rfl
       intro h
       try simp only [Bool.not_eq_true', Bool.not_eq_false'] at h
       rotate_left
       intro h
       try simp only [Bool.not_eq_true', Bool.not_eq_false'] at h
       rotate_right
       fail_if_success (with_reducible have hh : true = true := h))
    | (with_reducible apply al_caseF rfl
       · simp only [gchk, graw, List.getElem?_toArray, List.getElem?_cons_succ, List.getElem?_cons_zero, Bool.not_true, Bool.not_false, *]; with_reducible rfl
       · simp only [aput, Bool.false_eq_true, if_false, if_true, List.getElem?_cons_succ, List.getElem?_cons_zero, rootableA, List.set, List.set_cons_succ, List.set_cons_zero, List.map_cons, List.map_nil, aun, menA, menAs, Bool.or_false, Bool.or_self, beq_self_eq_true, Nat.reduceBEq, reduceIte]; with_reducible rfl
       intro h
       try simp only [Bool.not_eq_true', Bool.not_eq_false'] at h
       rotate_left
       intro h
       try simp only [Bool.not_eq_true', Bool.not_eq_false'] at h
       rotate_right
       fail_if_success (with_reducible have hh : false = false := h))
    )
  all_goals ((simp only [ares, aresL, ares1, ard, aview, aviews, atake, atakes, List.getElem?_cons_succ, List.getElem?_cons_zero, aget, agetN, rootA, kind3, size3, fitsA, reduceCtorEq, if_true, alens, alen, *]); simp [*])
theorem c_impl_within (x a b : Int) : Sound P 62 [.int .i64 x, .int .i64 a, .int .i64 b] (.bool (decide (x ≥ a) && decide (x ≤ b))) := by
  refine sound_body hT Go.Proofs.Try.func62 rfl ?_
  rw [Go.Proofs.Try.results62, Go.Proofs.Try.ntmps62]
  simp only [frame, List.length_cons, List.length_nil, List.replicate, List.cons_append, List.nil_append, Nat.reduceAdd, Nat.reduceSub]
  repeat' (first
    | with_reducible refine aw_seq ?_
    | with_reducible refine aw_block ?_
    | with_reducible refine aw_skip ?_
    | with_reducible refine aw_exit ?_
    | with_reducible refine aw_ret ?_
    | with_reducible refine thenA_n ?_
    | with_reducible refine thenA_r ?_
    | with_reducible refine thenA_x ?_
    | with_reducible refine blockA_n ?_
    | with_reducible refine blockA_r ?_
    | with_reducible refine blockA_e ?_
    | with_reducible refine blockA_x (by decide) ?_
    | with_reducible refine ends_r ?_
    | with_reducible refine ends_n ?_
    | with_reducible refine aw_reg ?_
    | (with_reducible refine aw_any hT ?_ ?_
       · decide +kernel)
    | with_reducible refine al_nil ?_
    | (with_reducible apply aw_cond
       · simp only [ard, aview, List.getElem?_cons_succ, List.getElem?_cons_zero, *]; with_reducible rfl
       all_goals (intro h; try simp only [Bool.not_eq_true', Bool.not_eq_false', reduceCtorEq] at h))
    | (with_reducible apply al_s hT true
       · first | exact gchk_none rfl | simp only [gchk, graw, List.getElem?_toArray, List.getElem?_cons_succ, List.getElem?_cons_zero, Bool.not_true, Bool.not_false, *]
       · simp only [ast, qv, ard, aconst, arefs, arefss, aview, aviews, atake, atakes, true_or, or_true, or_self, and_self, and_true, true_and, not_false_eq_true, ne_eq, eq_self, aput, Bool.false_eq_true, if_false, if_true, List.getElem?_cons_succ, List.getElem?_cons_zero, rootableA, List.set, List.set_cons_succ, List.set_cons_zero, List.map_cons, List.map_nil, aun, menA, menAs, Bool.or_false, Bool.or_self, beq_self_eq_true, Nat.reduceBEq, reduceIte, binA, unA, convA, intBin, strBin, bndA, minA, maxA, ards, List.toList_toArray, List.getElem?_toArray, reduceCtorEq, aget, agetN, aset, asetR, asetN, asetq, asetc, aclr, rootA, scalarA, hitA, hitAs, List.any_nil, List.any_cons, List.isPrefixOf, List.nil_append, List.cons_append, List.append_nil, List.append_assoc, alen, alens, plA, plAs, fitsA, fieldOk, List.take_zero, List.take_succ_cons, List.take_nil, List.length_cons, List.length_nil, Nat.reduceAdd, Nat.reduceLT, Nat.reduceEqDiff, Nat.reduceBNe, Bool.and_self, Bool.and_true, Bool.true_and, Bool.not_true, Bool.not_false, bne_iff_ne, bne_self_eq_false, Nat.zero_add, Nat.add_zero, Int.toNat_natCast, List.getElem?_map, Option.map_some, List.length_replicate, List.length_map, List.length_set, List.length_append, Bool.or_true, Bool.true_or, beq_self_eq_true, Int.natCast_nonneg, Int.reduceBEq, Int.reduceBNe, Int.reduceLT, Int.reduceLE, Int.reduceGT, Int.reduceGE, Int.reduceAdd, Int.reduceSub, Int.reduceNeg, decide_true, decide_false, Bool.true_and, Bool.false_and, Bool.and_true, Bool.and_false, kind3, size3, *]
         first | done | with_reducible rfl)
    | (with_reducible apply al_q hT
       · first | exact gchk_none rfl | simp only [gchk, graw, List.getElem?_toArray, List.getElem?_cons_succ, List.getElem?_cons_zero, Bool.not_true, Bool.not_false, *]
       · simp only [ast, qv, ard, aconst, arefs, arefss, aview, aviews, atake, atakes, true_or, or_true, or_self, and_self, and_true, true_and, not_false_eq_true, ne_eq, eq_self, aput, Bool.false_eq_true, if_false, if_true, List.getElem?_cons_succ, List.getElem?_cons_zero, rootableA, List.set, List.set_cons_succ, List.set_cons_zero, List.map_cons, List.map_nil, aun, menA, menAs, Bool.or_false, Bool.or_self, beq_self_eq_true, Nat.reduceBEq, reduceIte, binA, unA, convA, intBin, strBin, bndA, minA, maxA, ards, List.toList_toArray, List.getElem?_toArray, reduceCtorEq, aget, agetN, aset, asetR, asetN, asetq, asetc, aclr, rootA, scalarA, hitA, hitAs, List.any_nil, List.any_cons, List.isPrefixOf, List.nil_append, List.cons_append, List.append_nil, List.append_assoc, alen, alens, plA, plAs, fitsA, fieldOk, List.take_zero, List.take_succ_cons, List.take_nil, List.length_cons, List.length_nil, Nat.reduceAdd, Nat.reduceLT, Nat.reduceEqDiff, Nat.reduceBNe, Bool.and_self, Bool.and_true, Bool.true_and, Bool.not_true, Bool.not_false, bne_iff_ne, bne_self_eq_false, Nat.zero_add, Nat.add_zero, Int.toNat_natCast, List.getElem?_map, Option.map_some, List.length_replicate, List.length_map, List.length_set, List.length_append, Bool.or_true, Bool.true_or, beq_self_eq_true, Int.natCast_nonneg, Int.reduceBEq, Int.reduceBNe, Int.reduceLT, Int.reduceLE, Int.reduceGT, Int.reduceGE, Int.reduceAdd, Int.reduceSub, Int.reduceNeg, decide_true, decide_false, Bool.true_and, Bool.false_and, Bool.and_true, Bool.and_false, kind3, size3, *]
         first | done | with_reducible rfl
       · simp only [aput, Bool.false_eq_true, if_false, if_true, List.getElem?_cons_succ, List.getElem?_cons_zero, rootableA, List.set, List.set_cons_succ, List.set_cons_zero, List.map_cons, List.map_nil, aun, menA, menAs, Bool.or_false, Bool.or_self, beq_self_eq_true, Nat.reduceBEq, reduceIte]; with_reducible rfl)
    | (with_reducible apply al_skip
       · simp only [gchk, graw, List.getElem?_toArray, List.getElem?_cons_succ, List.getElem?_cons_zero, Bool.not_true, Bool.not_false, *]
       · simp only [aput, Bool.false_eq_true, if_false, if_true, List.getElem?_cons_succ, List.getElem?_cons_zero, rootableA, List.set, List.set_cons_succ, List.set_cons_zero, List.map_cons, List.map_nil, aun, menA, menAs, Bool.or_false, Bool.or_self, beq_self_eq_true, Nat.reduceBEq, reduceIte]; with_reducible rfl)
    | (with_reducible apply al_caseT rfl
       · simp only [gchk, graw, List.getElem?_toArray, List.getElem?_cons_succ, List.getElem?_cons_zero, Bool.not_true, Bool.not_false, *]; with_reducible rfl
       · simp only [aput, Bool.false_eq_true, if_false, if_true, List.getElem?_cons_succ, List.getElem?_cons_zero, rootableA, List.set, List.set_cons_succ, List.set_cons_zero, List.map_cons, List.map_nil, aun, menA, menAs, Bool.or_false, Bool.or_self, beq_self_eq_true, Nat.reduceBEq, reduceIte]; with_reducible rfl
       intro h
       try simp only [Bool.not_eq_true', Bool.not_eq_false'] at h
       rotate_left
       intro h
       try simp only [Bool.not_eq_true', Bool.not_eq_false'] at h
       rotate_right
       fail_if_success (with_reducible have hh : true = true := h))
    | (with_reducible apply al_caseF rfl
       · simp only [gchk, graw, List.getElem?_toArray, List.getElem?_cons_succ, List.getElem?_cons_zero, Bool.not_true, Bool.not_false, *]; with_reducible rfl
       · simp only [aput, Bool.false_eq_true, if_false, if_true, List.getElem?_cons_succ, List.getElem?_cons_zero, rootableA, List.set, List.set_cons_succ, List.set_cons_zero, List.map_cons, List.map_nil, aun, menA, menAs, Bool.or_false, Bool.or_self, beq_self_eq_true, Nat.reduceBEq, reduceIte]; with_reducible rfl
       intro h
       try simp only [Bool.not_eq_true', Bool.not_eq_false'] at h
       rotate_left
       intro h
       try simp only [Bool.not_eq_true', Bool.not_eq_false'] at h
       rotate_right
       fail_if_success (with_reducible have hh : false = false := h))
    )
  all_goals ((simp only [ares, aresL, ares1, ard, aview, aviews, atake, atakes, List.getElem?_cons_succ, List.getElem?_cons_zero, aget, agetN, rootA, kind3, size3, fitsA, reduceCtorEq, if_true, alens, alen, *]); simp [*])

/-- How many a term takes from the stack. -/
def takesI (o : Int) : Int := if o = 8 then 1 else if o = 9 ∨ o = 10 then 2 else 0
theorem c_impl_takes (o n : Int) (s : ByteArray) : Sound P 56 [.agg [.int .i64 o, .int .i64 n, .str s]] (.int .i64 (takesI o)) := by
  refine sound_body hT Go.Proofs.Try.func56 rfl ?_
  rw [Go.Proofs.Try.results56, Go.Proofs.Try.ntmps56]
  simp only [frame, List.length_cons, List.length_nil, List.replicate, List.cons_append, List.nil_append, Nat.reduceAdd, Nat.reduceSub]
  repeat' (first
    | with_reducible refine aw_seq ?_
    | with_reducible refine aw_block ?_
    | with_reducible refine aw_skip ?_
    | with_reducible refine aw_exit ?_
    | with_reducible refine aw_ret ?_
    | with_reducible refine thenA_n ?_
    | with_reducible refine thenA_r ?_
    | with_reducible refine thenA_x ?_
    | with_reducible refine blockA_n ?_
    | with_reducible refine blockA_r ?_
    | with_reducible refine blockA_e ?_
    | with_reducible refine blockA_x (by decide) ?_
    | with_reducible refine ends_r ?_
    | with_reducible refine ends_n ?_
    | with_reducible refine aw_reg ?_
    | (with_reducible refine aw_any hT ?_ ?_
       · decide +kernel)
    | with_reducible refine al_nil ?_
    | (with_reducible apply aw_cond
       · simp only [ard, aview, List.getElem?_cons_succ, List.getElem?_cons_zero, *]; with_reducible rfl
       all_goals (intro h; try simp only [Bool.not_eq_true', Bool.not_eq_false', reduceCtorEq] at h))
    | (with_reducible apply al_s hT true
       · first | exact gchk_none rfl | simp only [gchk, graw, List.getElem?_toArray, List.getElem?_cons_succ, List.getElem?_cons_zero, Bool.not_true, Bool.not_false, *]
       · simp only [ast, qv, ard, aconst, arefs, arefss, aview, aviews, atake, atakes, true_or, or_true, or_self, and_self, and_true, true_and, not_false_eq_true, ne_eq, eq_self, aput, Bool.false_eq_true, if_false, if_true, List.getElem?_cons_succ, List.getElem?_cons_zero, rootableA, List.set, List.set_cons_succ, List.set_cons_zero, List.map_cons, List.map_nil, aun, menA, menAs, Bool.or_false, Bool.or_self, beq_self_eq_true, Nat.reduceBEq, reduceIte, binA, unA, convA, intBin, strBin, bndA, minA, maxA, ards, List.toList_toArray, List.getElem?_toArray, reduceCtorEq, aget, agetN, aset, asetR, asetN, asetq, asetc, aclr, rootA, scalarA, hitA, hitAs, List.any_nil, List.any_cons, List.isPrefixOf, List.nil_append, List.cons_append, List.append_nil, List.append_assoc, alen, alens, plA, plAs, fitsA, fieldOk, List.take_zero, List.take_succ_cons, List.take_nil, List.length_cons, List.length_nil, Nat.reduceAdd, Nat.reduceLT, Nat.reduceEqDiff, Nat.reduceBNe, Bool.and_self, Bool.and_true, Bool.true_and, Bool.not_true, Bool.not_false, bne_iff_ne, bne_self_eq_false, Nat.zero_add, Nat.add_zero, Int.toNat_natCast, List.getElem?_map, Option.map_some, List.length_replicate, List.length_map, List.length_set, List.length_append, Bool.or_true, Bool.true_or, beq_self_eq_true, Int.natCast_nonneg, Int.reduceBEq, Int.reduceBNe, Int.reduceLT, Int.reduceLE, Int.reduceGT, Int.reduceGE, Int.reduceAdd, Int.reduceSub, Int.reduceNeg, decide_true, decide_false, Bool.true_and, Bool.false_and, Bool.and_true, Bool.and_false, kind3, size3, kind9, size9, kind89, size89, off89_0, off89_1, off89_2, *]
         first | done | with_reducible rfl)
    | (with_reducible apply al_q hT
       · first | exact gchk_none rfl | simp only [gchk, graw, List.getElem?_toArray, List.getElem?_cons_succ, List.getElem?_cons_zero, Bool.not_true, Bool.not_false, *]
       · simp only [ast, qv, ard, aconst, arefs, arefss, aview, aviews, atake, atakes, true_or, or_true, or_self, and_self, and_true, true_and, not_false_eq_true, ne_eq, eq_self, aput, Bool.false_eq_true, if_false, if_true, List.getElem?_cons_succ, List.getElem?_cons_zero, rootableA, List.set, List.set_cons_succ, List.set_cons_zero, List.map_cons, List.map_nil, aun, menA, menAs, Bool.or_false, Bool.or_self, beq_self_eq_true, Nat.reduceBEq, reduceIte, binA, unA, convA, intBin, strBin, bndA, minA, maxA, ards, List.toList_toArray, List.getElem?_toArray, reduceCtorEq, aget, agetN, aset, asetR, asetN, asetq, asetc, aclr, rootA, scalarA, hitA, hitAs, List.any_nil, List.any_cons, List.isPrefixOf, List.nil_append, List.cons_append, List.append_nil, List.append_assoc, alen, alens, plA, plAs, fitsA, fieldOk, List.take_zero, List.take_succ_cons, List.take_nil, List.length_cons, List.length_nil, Nat.reduceAdd, Nat.reduceLT, Nat.reduceEqDiff, Nat.reduceBNe, Bool.and_self, Bool.and_true, Bool.true_and, Bool.not_true, Bool.not_false, bne_iff_ne, bne_self_eq_false, Nat.zero_add, Nat.add_zero, Int.toNat_natCast, List.getElem?_map, Option.map_some, List.length_replicate, List.length_map, List.length_set, List.length_append, Bool.or_true, Bool.true_or, beq_self_eq_true, Int.natCast_nonneg, Int.reduceBEq, Int.reduceBNe, Int.reduceLT, Int.reduceLE, Int.reduceGT, Int.reduceGE, Int.reduceAdd, Int.reduceSub, Int.reduceNeg, decide_true, decide_false, Bool.true_and, Bool.false_and, Bool.and_true, Bool.and_false, kind3, size3, kind9, size9, kind89, size89, off89_0, off89_1, off89_2, *]
         first | done | with_reducible rfl
       · simp only [aput, Bool.false_eq_true, if_false, if_true, List.getElem?_cons_succ, List.getElem?_cons_zero, rootableA, List.set, List.set_cons_succ, List.set_cons_zero, List.map_cons, List.map_nil, aun, menA, menAs, Bool.or_false, Bool.or_self, beq_self_eq_true, Nat.reduceBEq, reduceIte]; with_reducible rfl)
    | (with_reducible apply al_skip
       · simp only [gchk, graw, List.getElem?_toArray, List.getElem?_cons_succ, List.getElem?_cons_zero, Bool.not_true, Bool.not_false, *]
       · simp only [aput, Bool.false_eq_true, if_false, if_true, List.getElem?_cons_succ, List.getElem?_cons_zero, rootableA, List.set, List.set_cons_succ, List.set_cons_zero, List.map_cons, List.map_nil, aun, menA, menAs, Bool.or_false, Bool.or_self, beq_self_eq_true, Nat.reduceBEq, reduceIte]; with_reducible rfl)
    | (with_reducible apply al_caseT rfl
       · simp only [gchk, graw, List.getElem?_toArray, List.getElem?_cons_succ, List.getElem?_cons_zero, Bool.not_true, Bool.not_false, *]; with_reducible rfl
       · simp only [aput, Bool.false_eq_true, if_false, if_true, List.getElem?_cons_succ, List.getElem?_cons_zero, rootableA, List.set, List.set_cons_succ, List.set_cons_zero, List.map_cons, List.map_nil, aun, menA, menAs, Bool.or_false, Bool.or_self, beq_self_eq_true, Nat.reduceBEq, reduceIte]; with_reducible rfl
       intro h
       try simp only [Bool.not_eq_true', Bool.not_eq_false'] at h
       rotate_left
       intro h
       try simp only [Bool.not_eq_true', Bool.not_eq_false'] at h
       rotate_right
       fail_if_success (with_reducible have hh : true = true := h))
    | (with_reducible apply al_caseF rfl
       · simp only [gchk, graw, List.getElem?_toArray, List.getElem?_cons_succ, List.getElem?_cons_zero, Bool.not_true, Bool.not_false, *]; with_reducible rfl
       · simp only [aput, Bool.false_eq_true, if_false, if_true, List.getElem?_cons_succ, List.getElem?_cons_zero, rootableA, List.set, List.set_cons_succ, List.set_cons_zero, List.map_cons, List.map_nil, aun, menA, menAs, Bool.or_false, Bool.or_self, beq_self_eq_true, Nat.reduceBEq, reduceIte]; with_reducible rfl
       intro h
       try simp only [Bool.not_eq_true', Bool.not_eq_false'] at h
       rotate_left
       intro h
       try simp only [Bool.not_eq_true', Bool.not_eq_false'] at h
       rotate_right
       fail_if_success (with_reducible have hh : false = false := h))
    )
  all_goals ((simp only [ares, aresL, ares1, ard, aview, aviews, atake, atakes, List.getElem?_cons_succ, List.getElem?_cons_zero, aget, agetN, rootA, kind3, size3, kind9, size9, kind89, size89, off89_0, off89_1, off89_2, fitsA, reduceCtorEq, if_true, alens, alen, *]); simp_all [takesI])
end Go.Proofs.Ytjmodjanaeoiiaa
