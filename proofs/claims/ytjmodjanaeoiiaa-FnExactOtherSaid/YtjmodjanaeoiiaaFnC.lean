/- Contracts: terms. -/
import Derived.Test.YtjmodjanaeoiiaaFnB
namespace Go.Proofs.Ytjmodjanaeoiiaa
open Go Go.RowKit Go.Bv
set_option linter.unusedSimpArgs false
set_option linter.unusedVariables false

/-- The empty text. -/
def isE (s : ByteArray) : Bool := s.toList == ByteArray.toList { data := #[] }
/-- How many a right term takes; -1: it is none. -/
def takesS (o n : Int) (s : ByteArray) : Int :=
  if (o = 1 ∨ o = 2 ∨ o = 3) ∧ (n == 0 && isE s) = true then 0
  else if o = 4 ∧ (isE s && (decide (n ≥ -999999999) && decide (n ≤ 999999999))) = true then 0
  else if o = 5 ∧ (isE s && (decide (n ≥ 1) && decide (n ≤ 999999999))) = true then 0
  else if (o = 6 ∨ o = 7) ∧ (n == 0 && partB s) = true then 0
  else if o = 8 ∧ (n == 0 && isE s) = true then 1
  else if (o = 9 ∨ o = 10) ∧ (n == 0 && isE s) = true then 2
  else -1
theorem opCases (o : Int) : o = 1 ∨ o = 2 ∨ o = 3 ∨ o = 4 ∨ o = 5 ∨ o = 6 ∨ o = 7 ∨ o = 8 ∨ o = 9 ∨ o = 10 ∨ ((o == 1) = false ∧ (o == 2) = false ∧ (o == 3) = false ∧ (o == 4) = false ∧ (o == 5) = false ∧ (o == 6) = false ∧ (o == 7) = false ∧ (o == 8) = false ∧ (o == 9) = false ∧ (o == 10) = false) := by
  simp only [beq_eq_false_iff_ne]
  omega
set_option maxHeartbeats 1000000 in
theorem c_spec_l8Takes (o n : Int) (s : ByteArray) (hs : s.size < 4611686018427387904) : Sound P 53 [.agg [.int .i64 o, .int .i64 n, .str s]] (.int .i64 (takesS o n s)) := by
  refine sound_body hT Go.Proofs.Try.func53 rfl ?_
  rw [Go.Proofs.Try.results53, Go.Proofs.Try.ntmps53]
  simp only [frame, List.length_cons, List.length_nil, List.replicate, List.cons_append, List.nil_append, Nat.reduceAdd, Nat.reduceSub]
  have he : (s.toList == ByteArray.toList { data := #[] }) = isE s := rfl
  rcases opCases o with rfl | rfl | rfl | rfl | rfl | rfl | rfl | rfl | rfl | rfl | ⟨h1, h2, h3, h4, h5, h6, h7, h8, h9, h10⟩
  repeat' (first
    | with_reducible refine aw_seq ?_
    | with_reducible refine aw_block ?_
    | with_reducible refine aw_skip ?_
    | with_reducible refine aw_exit ?_
    | with_reducible refine aw_ret ?_
    | with_reducible refine thenA_n ?_
    | with_reducible refine thenA_r ?_
    | with_reducible refine thenA_x ?_
    | with_reducible refine blockA_n ?_
    | with_reducible refine blockA_r ?_
    | with_reducible refine blockA_e ?_
    | with_reducible refine blockA_x (by decide) ?_
    | with_reducible refine ends_r ?_
    | with_reducible refine ends_n ?_
    | with_reducible refine aw_reg ?_
    | (with_reducible refine aw_any hT ?_ ?_
       · decide +kernel)
    | with_reducible refine al_nil ?_
    | (with_reducible apply aw_cond
       · simp only [ard, aview, List.getElem?_cons_succ, List.getElem?_cons_zero, *]; with_reducible rfl
       all_goals (intro h; try simp only [Bool.not_eq_true', Bool.not_eq_false', reduceCtorEq] at h))
    | (with_reducible apply al_call (f := 61)
       · first | exact gchk_none rfl | simp only [gchk, graw, List.getElem?_toArray, List.getElem?_cons_succ, List.getElem?_cons_zero, Bool.not_true, Bool.not_false, *]
       · rfl
       · exact Go.Proofs.Try.call61
       · simp only [ast, qv, ard, aconst, arefs, arefss, aview, aviews, atake, atakes, true_or, or_true, or_self, and_self, and_true, true_and, not_false_eq_true, ne_eq, eq_self, aput, Bool.false_eq_true, if_false, if_true, List.getElem?_cons_succ, List.getElem?_cons_zero, rootableA, List.set, List.set_cons_succ, List.set_cons_zero, List.map_cons, List.map_nil, aun, menA, menAs, Bool.or_false, Bool.or_self, beq_self_eq_true, Nat.reduceBEq, reduceIte, binA, unA, convA, intBin, strBin, bndA, minA, maxA, ards, List.toList_toArray, List.getElem?_toArray, reduceCtorEq, aget, agetN, aset, asetR, asetN, asetq, asetc, aclr, rootA, scalarA, hitA, hitAs, List.any_nil, List.any_cons, List.isPrefixOf, List.nil_append, List.cons_append, List.append_nil, List.append_assoc, alen, alens, plA, plAs, fitsA, fieldOk, List.take_zero, List.take_succ_cons, List.take_nil, List.length_cons, List.length_nil, Nat.reduceAdd, Nat.reduceLT, Nat.reduceEqDiff, Nat.reduceBNe, Bool.and_self, Bool.and_true, Bool.true_and, Bool.not_true, Bool.not_false, bne_iff_ne, bne_self_eq_false, Nat.zero_add, Nat.add_zero, Int.toNat_natCast, List.getElem?_map, Option.map_some, List.length_replicate, List.length_map, List.length_set, List.length_append, Bool.or_true, Bool.true_or, beq_self_eq_true, Int.natCast_nonneg, Int.reduceBEq, Int.reduceBNe, Int.reduceLT, Int.reduceLE, Int.reduceGT, Int.reduceGE, Int.reduceAdd, Int.reduceSub, Int.reduceNeg, decide_true, decide_false, Bool.true_and, Bool.false_and, Bool.and_true, Bool.and_false, kind3, size3, kind9, size9, kind89, size89, off89_0, off89_1, off89_2, *]; with_reducible rfl
       · simp only [plAs, plA, Bool.and_self, Bool.and_true, Bool.true_and, *]
       · (with_reducible apply c_spec_l1In) <;> assumption
       · simp only [aput, Bool.false_eq_true, if_false, if_true, List.getElem?_cons_succ, List.getElem?_cons_zero, rootableA, List.set, List.set_cons_succ, List.set_cons_zero, List.map_cons, List.map_nil, aun, menA, menAs, Bool.or_false, Bool.or_self, beq_self_eq_true, Nat.reduceBEq, reduceIte]; with_reducible rfl)
    | (with_reducible apply al_snap (f := 61)
       · first | exact gchk_none rfl | simp only [gchk, graw, List.getElem?_toArray, List.getElem?_cons_succ, List.getElem?_cons_zero, Bool.not_true, Bool.not_false, *]
       · rfl
       · exact Go.Proofs.Try.call61
       · simp only [ast, qv, ard, aconst, arefs, arefss, aview, aviews, atake, atakes, true_or, or_true, or_self, and_self, and_true, true_and, not_false_eq_true, ne_eq, eq_self, aput, Bool.false_eq_true, if_false, if_true, List.getElem?_cons_succ, List.getElem?_cons_zero, rootableA, List.set, List.set_cons_succ, List.set_cons_zero, List.map_cons, List.map_nil, aun, menA, menAs, Bool.or_false, Bool.or_self, beq_self_eq_true, Nat.reduceBEq, reduceIte, binA, unA, convA, intBin, strBin, bndA, minA, maxA, ards, List.toList_toArray, List.getElem?_toArray, reduceCtorEq, aget, agetN, aset, asetR, asetN, asetq, asetc, aclr, rootA, scalarA, hitA, hitAs, List.any_nil, List.any_cons, List.isPrefixOf, List.nil_append, List.cons_append, List.append_nil, List.append_assoc, alen, alens, plA, plAs, fitsA, fieldOk, List.take_zero, List.take_succ_cons, List.take_nil, List.length_cons, List.length_nil, Nat.reduceAdd, Nat.reduceLT, Nat.reduceEqDiff, Nat.reduceBNe, Bool.and_self, Bool.and_true, Bool.true_and, Bool.not_true, Bool.not_false, bne_iff_ne, bne_self_eq_false, Nat.zero_add, Nat.add_zero, Int.toNat_natCast, List.getElem?_map, Option.map_some, List.length_replicate, List.length_map, List.length_set, List.length_append, Bool.or_true, Bool.true_or, beq_self_eq_true, Int.natCast_nonneg, Int.reduceBEq, Int.reduceBNe, Int.reduceLT, Int.reduceLE, Int.reduceGT, Int.reduceGE, Int.reduceAdd, Int.reduceSub, Int.reduceNeg, decide_true, decide_false, Bool.true_and, Bool.false_and, Bool.and_true, Bool.and_false, kind3, size3, kind9, size9, kind89, size89, off89_0, off89_1, off89_2, *]; with_reducible rfl
       · simp only [asnap, asnaps, ash, ashs, List.drop_zero, ast, qv, ard, aconst, arefs, arefss, aview, aviews, atake, atakes, true_or, or_true, or_self, and_self, and_true, true_and, not_false_eq_true, ne_eq, eq_self, aput, Bool.false_eq_true, if_false, if_true, List.getElem?_cons_succ, List.getElem?_cons_zero, rootableA, List.set, List.set_cons_succ, List.set_cons_zero, List.map_cons, List.map_nil, aun, menA, menAs, Bool.or_false, Bool.or_self, beq_self_eq_true, Nat.reduceBEq, reduceIte, binA, unA, convA, intBin, strBin, bndA, minA, maxA, ards, List.toList_toArray, List.getElem?_toArray, reduceCtorEq, aget, agetN, aset, asetR, asetN, asetq, asetc, aclr, rootA, scalarA, hitA, hitAs, List.any_nil, List.any_cons, List.isPrefixOf, List.nil_append, List.cons_append, List.append_nil, List.append_assoc, alen, alens, plA, plAs, fitsA, fieldOk, List.take_zero, List.take_succ_cons, List.take_nil, List.length_cons, List.length_nil, Nat.reduceAdd, Nat.reduceLT, Nat.reduceEqDiff, Nat.reduceBNe, Bool.and_self, Bool.and_true, Bool.true_and, Bool.not_true, Bool.not_false, bne_iff_ne, bne_self_eq_false, Nat.zero_add, Nat.add_zero, Int.toNat_natCast, List.getElem?_map, Option.map_some, List.length_replicate, List.length_map, List.length_set, List.length_append, Bool.or_true, Bool.true_or, beq_self_eq_true, Int.natCast_nonneg, Int.reduceBEq, Int.reduceBNe, Int.reduceLT, Int.reduceLE, Int.reduceGT, Int.reduceGE, Int.reduceAdd, Int.reduceSub, Int.reduceNeg, decide_true, decide_false, Bool.true_and, Bool.false_and, Bool.and_true, Bool.and_false, kind3, size3, kind9, size9, kind89, size89, off89_0, off89_1, off89_2, *]; with_reducible rfl
       · (with_reducible apply c_spec_l1In) <;> assumption
       · simp only [noSh, noShs, Bool.and_self, *]
       · simp only [aput, Bool.false_eq_true, if_false, if_true, List.getElem?_cons_succ, List.getElem?_cons_zero, rootableA, List.set, List.set_cons_succ, List.set_cons_zero, List.map_cons, List.map_nil, aun, menA, menAs, Bool.or_false, Bool.or_self, beq_self_eq_true, Nat.reduceBEq, reduceIte]; with_reducible rfl)
    | (with_reducible apply al_call (f := 107)
       · first | exact gchk_none rfl | simp only [gchk, graw, List.getElem?_toArray, List.getElem?_cons_succ, List.getElem?_cons_zero, Bool.not_true, Bool.not_false, *]
       · rfl
       · exact Go.Proofs.Try.call107
       · simp only [ast, qv, ard, aconst, arefs, arefss, aview, aviews, atake, atakes, true_or, or_true, or_self, and_self, and_true, true_and, not_false_eq_true, ne_eq, eq_self, aput, Bool.false_eq_true, if_false, if_true, List.getElem?_cons_succ, List.getElem?_cons_zero, rootableA, List.set, List.set_cons_succ, List.set_cons_zero, List.map_cons, List.map_nil, aun, menA, menAs, Bool.or_false, Bool.or_self, beq_self_eq_true, Nat.reduceBEq, reduceIte, binA, unA, convA, intBin, strBin, bndA, minA, maxA, ards, List.toList_toArray, List.getElem?_toArray, reduceCtorEq, aget, agetN, aset, asetR, asetN, asetq, asetc, aclr, rootA, scalarA, hitA, hitAs, List.any_nil, List.any_cons, List.isPrefixOf, List.nil_append, List.cons_append, List.append_nil, List.append_assoc, alen, alens, plA, plAs, fitsA, fieldOk, List.take_zero, List.take_succ_cons, List.take_nil, List.length_cons, List.length_nil, Nat.reduceAdd, Nat.reduceLT, Nat.reduceEqDiff, Nat.reduceBNe, Bool.and_self, Bool.and_true, Bool.true_and, Bool.not_true, Bool.not_false, bne_iff_ne, bne_self_eq_false, Nat.zero_add, Nat.add_zero, Int.toNat_natCast, List.getElem?_map, Option.map_some, List.length_replicate, List.length_map, List.length_set, List.length_append, Bool.or_true, Bool.true_or, beq_self_eq_true, Int.natCast_nonneg, Int.reduceBEq, Int.reduceBNe, Int.reduceLT, Int.reduceLE, Int.reduceGT, Int.reduceGE, Int.reduceAdd, Int.reduceSub, Int.reduceNeg, decide_true, decide_false, Bool.true_and, Bool.false_and, Bool.and_true, Bool.and_false, kind3, size3, kind9, size9, kind89, size89, off89_0, off89_1, off89_2, *]; with_reducible rfl
       · simp only [plAs, plA, Bool.and_self, Bool.and_true, Bool.true_and, *]
       · (with_reducible apply c_spec_l8Part) <;> assumption
       · simp only [aput, Bool.false_eq_true, if_false, if_true, List.getElem?_cons_succ, List.getElem?_cons_zero, rootableA, List.set, List.set_cons_succ, List.set_cons_zero, List.map_cons, List.map_nil, aun, menA, menAs, Bool.or_false, Bool.or_self, beq_self_eq_true, Nat.reduceBEq, reduceIte]; with_reducible rfl)
    | (with_reducible apply al_snap (f := 107)
       · first | exact gchk_none rfl | simp only [gchk, graw, List.getElem?_toArray, List.getElem?_cons_succ, List.getElem?_cons_zero, Bool.not_true, Bool.not_false, *]
       · rfl
       · exact Go.Proofs.Try.call107
       · simp only [ast, qv, ard, aconst, arefs, arefss, aview, aviews, atake, atakes, true_or, or_true, or_self, and_self, and_true, true_and, not_false_eq_true, ne_eq, eq_self, aput, Bool.false_eq_true, if_false, if_true, List.getElem?_cons_succ, List.getElem?_cons_zero, rootableA, List.set, List.set_cons_succ, List.set_cons_zero, List.map_cons, List.map_nil, aun, menA, menAs, Bool.or_false, Bool.or_self, beq_self_eq_true, Nat.reduceBEq, reduceIte, binA, unA, convA, intBin, strBin, bndA, minA, maxA, ards, List.toList_toArray, List.getElem?_toArray, reduceCtorEq, aget, agetN, aset, asetR, asetN, asetq, asetc, aclr, rootA, scalarA, hitA, hitAs, List.any_nil, List.any_cons, List.isPrefixOf, List.nil_append, List.cons_append, List.append_nil, List.append_assoc, alen, alens, plA, plAs, fitsA, fieldOk, List.take_zero, List.take_succ_cons, List.take_nil, List.length_cons, List.length_nil, Nat.reduceAdd, Nat.reduceLT, Nat.reduceEqDiff, Nat.reduceBNe, Bool.and_self, Bool.and_true, Bool.true_and, Bool.not_true, Bool.not_false, bne_iff_ne, bne_self_eq_false, Nat.zero_add, Nat.add_zero, Int.toNat_natCast, List.getElem?_map, Option.map_some, List.length_replicate, List.length_map, List.length_set, List.length_append, Bool.or_true, Bool.true_or, beq_self_eq_true, Int.natCast_nonneg, Int.reduceBEq, Int.reduceBNe, Int.reduceLT, Int.reduceLE, Int.reduceGT, Int.reduceGE, Int.reduceAdd, Int.reduceSub, Int.reduceNeg, decide_true, decide_false, Bool.true_and, Bool.false_and, Bool.and_true, Bool.and_false, kind3, size3, kind9, size9, kind89, size89, off89_0, off89_1, off89_2, *]; with_reducible rfl
       · simp only [asnap, asnaps, ash, ashs, List.drop_zero, ast, qv, ard, aconst, arefs, arefss, aview, aviews, atake, atakes, true_or, or_true, or_self, and_self, and_true, true_and, not_false_eq_true, ne_eq, eq_self, aput, Bool.false_eq_true, if_false, if_true, List.getElem?_cons_succ, List.getElem?_cons_zero, rootableA, List.set, List.set_cons_succ, List.set_cons_zero, List.map_cons, List.map_nil, aun, menA, menAs, Bool.or_false, Bool.or_self, beq_self_eq_true, Nat.reduceBEq, reduceIte, binA, unA, convA, intBin, strBin, bndA, minA, maxA, ards, List.toList_toArray, List.getElem?_toArray, reduceCtorEq, aget, agetN, aset, asetR, asetN, asetq, asetc, aclr, rootA, scalarA, hitA, hitAs, List.any_nil, List.any_cons, List.isPrefixOf, List.nil_append, List.cons_append, List.append_nil, List.append_assoc, alen, alens, plA, plAs, fitsA, fieldOk, List.take_zero, List.take_succ_cons, List.take_nil, List.length_cons, List.length_nil, Nat.reduceAdd, Nat.reduceLT, Nat.reduceEqDiff, Nat.reduceBNe, Bool.and_self, Bool.and_true, Bool.true_and, Bool.not_true, Bool.not_false, bne_iff_ne, bne_self_eq_false, Nat.zero_add, Nat.add_zero, Int.toNat_natCast, List.getElem?_map, Option.map_some, List.length_replicate, List.length_map, List.length_set, List.length_append, Bool.or_true, Bool.true_or, beq_self_eq_true, Int.natCast_nonneg, Int.reduceBEq, Int.reduceBNe, Int.reduceLT, Int.reduceLE, Int.reduceGT, Int.reduceGE, Int.reduceAdd, Int.reduceSub, Int.reduceNeg, decide_true, decide_false, Bool.true_and, Bool.false_and, Bool.and_true, Bool.and_false, kind3, size3, kind9, size9, kind89, size89, off89_0, off89_1, off89_2, *]; with_reducible rfl
       · (with_reducible apply c_spec_l8Part) <;> assumption
       · simp only [noSh, noShs, Bool.and_self, *]
       · simp only [aput, Bool.false_eq_true, if_false, if_true, List.getElem?_cons_succ, List.getElem?_cons_zero, rootableA, List.set, List.set_cons_succ, List.set_cons_zero, List.map_cons, List.map_nil, aun, menA, menAs, Bool.or_false, Bool.or_self, beq_self_eq_true, Nat.reduceBEq, reduceIte]; with_reducible rfl)
    | (with_reducible apply al_s hT true
       · first | exact gchk_none rfl | simp only [gchk, graw, List.getElem?_toArray, List.getElem?_cons_succ, List.getElem?_cons_zero, Bool.not_true, Bool.not_false, *]
       · simp only [ast, qv, ard, aconst, arefs, arefss, aview, aviews, atake, atakes, true_or, or_true, or_self, and_self, and_true, true_and, not_false_eq_true, ne_eq, eq_self, aput, Bool.false_eq_true, if_false, if_true, List.getElem?_cons_succ, List.getElem?_cons_zero, rootableA, List.set, List.set_cons_succ, List.set_cons_zero, List.map_cons, List.map_nil, aun, menA, menAs, Bool.or_false, Bool.or_self, beq_self_eq_true, Nat.reduceBEq, reduceIte, binA, unA, convA, intBin, strBin, bndA, minA, maxA, ards, List.toList_toArray, List.getElem?_toArray, reduceCtorEq, aget, agetN, aset, asetR, asetN, asetq, asetc, aclr, rootA, scalarA, hitA, hitAs, List.any_nil, List.any_cons, List.isPrefixOf, List.nil_append, List.cons_append, List.append_nil, List.append_assoc, alen, alens, plA, plAs, fitsA, fieldOk, List.take_zero, List.take_succ_cons, List.take_nil, List.length_cons, List.length_nil, Nat.reduceAdd, Nat.reduceLT, Nat.reduceEqDiff, Nat.reduceBNe, Bool.and_self, Bool.and_true, Bool.true_and, Bool.not_true, Bool.not_false, bne_iff_ne, bne_self_eq_false, Nat.zero_add, Nat.add_zero, Int.toNat_natCast, List.getElem?_map, Option.map_some, List.length_replicate, List.length_map, List.length_set, List.length_append, Bool.or_true, Bool.true_or, beq_self_eq_true, Int.natCast_nonneg, Int.reduceBEq, Int.reduceBNe, Int.reduceLT, Int.reduceLE, Int.reduceGT, Int.reduceGE, Int.reduceAdd, Int.reduceSub, Int.reduceNeg, decide_true, decide_false, Bool.true_and, Bool.false_and, Bool.and_true, Bool.and_false, kind3, size3, kind9, size9, kind89, size89, off89_0, off89_1, off89_2, *]
         first | done | with_reducible rfl)
    | (with_reducible apply al_q hT
       · first | exact gchk_none rfl | simp only [gchk, graw, List.getElem?_toArray, List.getElem?_cons_succ, List.getElem?_cons_zero, Bool.not_true, Bool.not_false, *]
       · simp only [ast, qv, ard, aconst, arefs, arefss, aview, aviews, atake, atakes, true_or, or_true, or_self, and_self, and_true, true_and, not_false_eq_true, ne_eq, eq_self, aput, Bool.false_eq_true, if_false, if_true, List.getElem?_cons_succ, List.getElem?_cons_zero, rootableA, List.set, List.set_cons_succ, List.set_cons_zero, List.map_cons, List.map_nil, aun, menA, menAs, Bool.or_false, Bool.or_self, beq_self_eq_true, Nat.reduceBEq, reduceIte, binA, unA, convA, intBin, strBin, bndA, minA, maxA, ards, List.toList_toArray, List.getElem?_toArray, reduceCtorEq, aget, agetN, aset, asetR, asetN, asetq, asetc, aclr, rootA, scalarA, hitA, hitAs, List.any_nil, List.any_cons, List.isPrefixOf, List.nil_append, List.cons_append, List.append_nil, List.append_assoc, alen, alens, plA, plAs, fitsA, fieldOk, List.take_zero, List.take_succ_cons, List.take_nil, List.length_cons, List.length_nil, Nat.reduceAdd, Nat.reduceLT, Nat.reduceEqDiff, Nat.reduceBNe, Bool.and_self, Bool.and_true, Bool.true_and, Bool.not_true, Bool.not_false, bne_iff_ne, bne_self_eq_false, Nat.zero_add, Nat.add_zero, Int.toNat_natCast, List.getElem?_map, Option.map_some, List.length_replicate, List.length_map, List.length_set, List.length_append, Bool.or_true, Bool.true_or, beq_self_eq_true, Int.natCast_nonneg, Int.reduceBEq, Int.reduceBNe, Int.reduceLT, Int.reduceLE, Int.reduceGT, Int.reduceGE, Int.reduceAdd, Int.reduceSub, Int.reduceNeg, decide_true, decide_false, Bool.true_and, Bool.false_and, Bool.and_true, Bool.and_false, kind3, size3, kind9, size9, kind89, size89, off89_0, off89_1, off89_2, *]
         first | done | with_reducible rfl
       · simp only [aput, Bool.false_eq_true, if_false, if_true, List.getElem?_cons_succ, List.getElem?_cons_zero, rootableA, List.set, List.set_cons_succ, List.set_cons_zero, List.map_cons, List.map_nil, aun, menA, menAs, Bool.or_false, Bool.or_self, beq_self_eq_true, Nat.reduceBEq, reduceIte]; with_reducible rfl)
    | (with_reducible apply al_skip
       · simp only [gchk, graw, List.getElem?_toArray, List.getElem?_cons_succ, List.getElem?_cons_zero, Bool.not_true, Bool.not_false, *]
       · simp only [aput, Bool.false_eq_true, if_false, if_true, List.getElem?_cons_succ, List.getElem?_cons_zero, rootableA, List.set, List.set_cons_succ, List.set_cons_zero, List.map_cons, List.map_nil, aun, menA, menAs, Bool.or_false, Bool.or_self, beq_self_eq_true, Nat.reduceBEq, reduceIte]; with_reducible rfl)
    | (with_reducible apply al_caseT rfl
       · simp only [gchk, graw, List.getElem?_toArray, List.getElem?_cons_succ, List.getElem?_cons_zero, Bool.not_true, Bool.not_false, *]; with_reducible rfl
       · simp only [aput, Bool.false_eq_true, if_false, if_true, List.getElem?_cons_succ, List.getElem?_cons_zero, rootableA, List.set, List.set_cons_succ, List.set_cons_zero, List.map_cons, List.map_nil, aun, menA, menAs, Bool.or_false, Bool.or_self, beq_self_eq_true, Nat.reduceBEq, reduceIte]; with_reducible rfl
       intro h
       try simp only [Bool.not_eq_true', Bool.not_eq_false'] at h
       rotate_left
       intro h
       try simp only [Bool.not_eq_true', Bool.not_eq_false'] at h
       rotate_right
       fail_if_success (with_reducible have hh : true = true := h))
    | (with_reducible apply al_caseF rfl
       · simp only [gchk, graw, List.getElem?_toArray, List.getElem?_cons_succ, List.getElem?_cons_zero, Bool.not_true, Bool.not_false, *]; with_reducible rfl
       · simp only [aput, Bool.false_eq_true, if_false, if_true, List.getElem?_cons_succ, List.getElem?_cons_zero, rootableA, List.set, List.set_cons_succ, List.set_cons_zero, List.map_cons, List.map_nil, aun, menA, menAs, Bool.or_false, Bool.or_self, beq_self_eq_true, Nat.reduceBEq, reduceIte]; with_reducible rfl
       intro h
       try simp only [Bool.not_eq_true', Bool.not_eq_false'] at h
       rotate_left
       intro h
       try simp only [Bool.not_eq_true', Bool.not_eq_false'] at h
       rotate_right
       fail_if_success (with_reducible have hh : false = false := h))
    )
  all_goals ((simp only [ares, aresL, ares1, ard, aview, aviews, atake, atakes, List.getElem?_cons_succ, List.getElem?_cons_zero, aget, agetN, rootA, kind3, size3, kind9, size9, kind89, size89, off89_0, off89_1, off89_2, fitsA, reduceCtorEq, if_true, alens, alen, *]); clear he; simp_all [takesS])
/-- A term that is right. -/
def termB (o n : Int) (s : ByteArray) : Bool :=
  if o = 1 ∨ o = 2 ∨ o = 3 ∨ o = 8 ∨ o = 9 ∨ o = 10 then n == 0 && isE s
  else if o = 4 then (decide (n ≥ -999999999) && decide (n ≤ 999999999)) && isE s
  else if o = 5 then (decide (n ≥ 1) && decide (n ≤ 999999999)) && isE s
  else if o = 6 ∨ o = 7 then n == 0 && partB s
  else false
set_option maxHeartbeats 1000000 in
theorem c_impl_termOk (o n : Int) (s : ByteArray) (hs : s.size < 4611686018427387904) : Sound P 55 [.agg [.int .i64 o, .int .i64 n, .str s]] (.bool (termB o n s)) := by
  refine sound_body hT Go.Proofs.Try.func55 rfl ?_
  rw [Go.Proofs.Try.results55, Go.Proofs.Try.ntmps55]
  simp only [frame, List.length_cons, List.length_nil, List.replicate, List.cons_append, List.nil_append, Nat.reduceAdd, Nat.reduceSub]
  have he : (s.toList == ByteArray.toList { data := #[] }) = isE s := rfl
  rcases opCases o with rfl | rfl | rfl | rfl | rfl | rfl | rfl | rfl | rfl | rfl | ⟨h1, h2, h3, h4, h5, h6, h7, h8, h9, h10⟩
  repeat' (first
    | with_reducible refine aw_seq ?_
    | with_reducible refine aw_block ?_
    | with_reducible refine aw_skip ?_
    | with_reducible refine aw_exit ?_
    | with_reducible refine aw_ret ?_
    | with_reducible refine thenA_n ?_
    | with_reducible refine thenA_r ?_
    | with_reducible refine thenA_x ?_
    | with_reducible refine blockA_n ?_
    | with_reducible refine blockA_r ?_
    | with_reducible refine blockA_e ?_
    | with_reducible refine blockA_x (by decide) ?_
    | with_reducible refine ends_r ?_
    | with_reducible refine ends_n ?_
    | with_reducible refine aw_reg ?_
    | (with_reducible refine aw_any hT ?_ ?_
       · decide +kernel)
    | with_reducible refine al_nil ?_
    | (with_reducible apply aw_cond
       · simp only [ard, aview, List.getElem?_cons_succ, List.getElem?_cons_zero, *]; with_reducible rfl
       all_goals (intro h; try simp only [Bool.not_eq_true', Bool.not_eq_false', reduceCtorEq] at h))
    | (with_reducible apply al_call (f := 62)
       · first | exact gchk_none rfl | simp only [gchk, graw, List.getElem?_toArray, List.getElem?_cons_succ, List.getElem?_cons_zero, Bool.not_true, Bool.not_false, *]
       · rfl
       · exact Go.Proofs.Try.call62
       · simp only [ast, qv, ard, aconst, arefs, arefss, aview, aviews, atake, atakes, true_or, or_true, or_self, and_self, and_true, true_and, not_false_eq_true, ne_eq, eq_self, aput, Bool.false_eq_true, if_false, if_true, List.getElem?_cons_succ, List.getElem?_cons_zero, rootableA, List.set, List.set_cons_succ, List.set_cons_zero, List.map_cons, List.map_nil, aun, menA, menAs, Bool.or_false, Bool.or_self, beq_self_eq_true, Nat.reduceBEq, reduceIte, binA, unA, convA, intBin, strBin, bndA, minA, maxA, ards, List.toList_toArray, List.getElem?_toArray, reduceCtorEq, aget, agetN, aset, asetR, asetN, asetq, asetc, aclr, rootA, scalarA, hitA, hitAs, List.any_nil, List.any_cons, List.isPrefixOf, List.nil_append, List.cons_append, List.append_nil, List.append_assoc, alen, alens, plA, plAs, fitsA, fieldOk, List.take_zero, List.take_succ_cons, List.take_nil, List.length_cons, List.length_nil, Nat.reduceAdd, Nat.reduceLT, Nat.reduceEqDiff, Nat.reduceBNe, Bool.and_self, Bool.and_true, Bool.true_and, Bool.not_true, Bool.not_false, bne_iff_ne, bne_self_eq_false, Nat.zero_add, Nat.add_zero, Int.toNat_natCast, List.getElem?_map, Option.map_some, List.length_replicate, List.length_map, List.length_set, List.length_append, Bool.or_true, Bool.true_or, beq_self_eq_true, Int.natCast_nonneg, Int.reduceBEq, Int.reduceBNe, Int.reduceLT, Int.reduceLE, Int.reduceGT, Int.reduceGE, Int.reduceAdd, Int.reduceSub, Int.reduceNeg, decide_true, decide_false, Bool.true_and, Bool.false_and, Bool.and_true, Bool.and_false, kind3, size3, kind9, size9, kind89, size89, off89_0, off89_1, off89_2, *]; with_reducible rfl
       · simp only [plAs, plA, Bool.and_self, Bool.and_true, Bool.true_and, *]
       · (with_reducible apply c_impl_within) <;> assumption
       · simp only [aput, Bool.false_eq_true, if_false, if_true, List.getElem?_cons_succ, List.getElem?_cons_zero, rootableA, List.set, List.set_cons_succ, List.set_cons_zero, List.map_cons, List.map_nil, aun, menA, menAs, Bool.or_false, Bool.or_self, beq_self_eq_true, Nat.reduceBEq, reduceIte]; with_reducible rfl)
    | (with_reducible apply al_snap (f := 62)
       · first | exact gchk_none rfl | simp only [gchk, graw, List.getElem?_toArray, List.getElem?_cons_succ, List.getElem?_cons_zero, Bool.not_true, Bool.not_false, *]
       · rfl
       · exact Go.Proofs.Try.call62
       · simp only [ast, qv, ard, aconst, arefs, arefss, aview, aviews, atake, atakes, true_or, or_true, or_self, and_self, and_true, true_and, not_false_eq_true, ne_eq, eq_self, aput, Bool.false_eq_true, if_false, if_true, List.getElem?_cons_succ, List.getElem?_cons_zero, rootableA, List.set, List.set_cons_succ, List.set_cons_zero, List.map_cons, List.map_nil, aun, menA, menAs, Bool.or_false, Bool.or_self, beq_self_eq_true, Nat.reduceBEq, reduceIte, binA, unA, convA, intBin, strBin, bndA, minA, maxA, ards, List.toList_toArray, List.getElem?_toArray, reduceCtorEq, aget, agetN, aset, asetR, asetN, asetq, asetc, aclr, rootA, scalarA, hitA, hitAs, List.any_nil, List.any_cons, List.isPrefixOf, List.nil_append, List.cons_append, List.append_nil, List.append_assoc, alen, alens, plA, plAs, fitsA, fieldOk, List.take_zero, List.take_succ_cons, List.take_nil, List.length_cons, List.length_nil, Nat.reduceAdd, Nat.reduceLT, Nat.reduceEqDiff, Nat.reduceBNe, Bool.and_self, Bool.and_true, Bool.true_and, Bool.not_true, Bool.not_false, bne_iff_ne, bne_self_eq_false, Nat.zero_add, Nat.add_zero, Int.toNat_natCast, List.getElem?_map, Option.map_some, List.length_replicate, List.length_map, List.length_set, List.length_append, Bool.or_true, Bool.true_or, beq_self_eq_true, Int.natCast_nonneg, Int.reduceBEq, Int.reduceBNe, Int.reduceLT, Int.reduceLE, Int.reduceGT, Int.reduceGE, Int.reduceAdd, Int.reduceSub, Int.reduceNeg, decide_true, decide_false, Bool.true_and, Bool.false_and, Bool.and_true, Bool.and_false, kind3, size3, kind9, size9, kind89, size89, off89_0, off89_1, off89_2, *]; with_reducible rfl
       · simp only [asnap, asnaps, ash, ashs, List.drop_zero, ast, qv, ard, aconst, arefs, arefss, aview, aviews, atake, atakes, true_or, or_true, or_self, and_self, and_true, true_and, not_false_eq_true, ne_eq, eq_self, aput, Bool.false_eq_true, if_false, if_true, List.getElem?_cons_succ, List.getElem?_cons_zero, rootableA, List.set, List.set_cons_succ, List.set_cons_zero, List.map_cons, List.map_nil, aun, menA, menAs, Bool.or_false, Bool.or_self, beq_self_eq_true, Nat.reduceBEq, reduceIte, binA, unA, convA, intBin, strBin, bndA, minA, maxA, ards, List.toList_toArray, List.getElem?_toArray, reduceCtorEq, aget, agetN, aset, asetR, asetN, asetq, asetc, aclr, rootA, scalarA, hitA, hitAs, List.any_nil, List.any_cons, List.isPrefixOf, List.nil_append, List.cons_append, List.append_nil, List.append_assoc, alen, alens, plA, plAs, fitsA, fieldOk, List.take_zero, List.take_succ_cons, List.take_nil, List.length_cons, List.length_nil, Nat.reduceAdd, Nat.reduceLT, Nat.reduceEqDiff, Nat.reduceBNe, Bool.and_self, Bool.and_true, Bool.true_and, Bool.not_true, Bool.not_false, bne_iff_ne, bne_self_eq_false, Nat.zero_add, Nat.add_zero, Int.toNat_natCast, List.getElem?_map, Option.map_some, List.length_replicate, List.length_map, List.length_set, List.length_append, Bool.or_true, Bool.true_or, beq_self_eq_true, Int.natCast_nonneg, Int.reduceBEq, Int.reduceBNe, Int.reduceLT, Int.reduceLE, Int.reduceGT, Int.reduceGE, Int.reduceAdd, Int.reduceSub, Int.reduceNeg, decide_true, decide_false, Bool.true_and, Bool.false_and, Bool.and_true, Bool.and_false, kind3, size3, kind9, size9, kind89, size89, off89_0, off89_1, off89_2, *]; with_reducible rfl
       · (with_reducible apply c_impl_within) <;> assumption
       · simp only [noSh, noShs, Bool.and_self, *]
       · simp only [aput, Bool.false_eq_true, if_false, if_true, List.getElem?_cons_succ, List.getElem?_cons_zero, rootableA, List.set, List.set_cons_succ, List.set_cons_zero, List.map_cons, List.map_nil, aun, menA, menAs, Bool.or_false, Bool.or_self, beq_self_eq_true, Nat.reduceBEq, reduceIte]; with_reducible rfl)
    | (with_reducible apply al_call (f := 108)
       · first | exact gchk_none rfl | simp only [gchk, graw, List.getElem?_toArray, List.getElem?_cons_succ, List.getElem?_cons_zero, Bool.not_true, Bool.not_false, *]
       · rfl
       · exact Go.Proofs.Try.call108
       · simp only [ast, qv, ard, aconst, arefs, arefss, aview, aviews, atake, atakes, true_or, or_true, or_self, and_self, and_true, true_and, not_false_eq_true, ne_eq, eq_self, aput, Bool.false_eq_true, if_false, if_true, List.getElem?_cons_succ, List.getElem?_cons_zero, rootableA, List.set, List.set_cons_succ, List.set_cons_zero, List.map_cons, List.map_nil, aun, menA, menAs, Bool.or_false, Bool.or_self, beq_self_eq_true, Nat.reduceBEq, reduceIte, binA, unA, convA, intBin, strBin, bndA, minA, maxA, ards, List.toList_toArray, List.getElem?_toArray, reduceCtorEq, aget, agetN, aset, asetR, asetN, asetq, asetc, aclr, rootA, scalarA, hitA, hitAs, List.any_nil, List.any_cons, List.isPrefixOf, List.nil_append, List.cons_append, List.append_nil, List.append_assoc, alen, alens, plA, plAs, fitsA, fieldOk, List.take_zero, List.take_succ_cons, List.take_nil, List.length_cons, List.length_nil, Nat.reduceAdd, Nat.reduceLT, Nat.reduceEqDiff, Nat.reduceBNe, Bool.and_self, Bool.and_true, Bool.true_and, Bool.not_true, Bool.not_false, bne_iff_ne, bne_self_eq_false, Nat.zero_add, Nat.add_zero, Int.toNat_natCast, List.getElem?_map, Option.map_some, List.length_replicate, List.length_map, List.length_set, List.length_append, Bool.or_true, Bool.true_or, beq_self_eq_true, Int.natCast_nonneg, Int.reduceBEq, Int.reduceBNe, Int.reduceLT, Int.reduceLE, Int.reduceGT, Int.reduceGE, Int.reduceAdd, Int.reduceSub, Int.reduceNeg, decide_true, decide_false, Bool.true_and, Bool.false_and, Bool.and_true, Bool.and_false, kind3, size3, kind9, size9, kind89, size89, off89_0, off89_1, off89_2, *]; with_reducible rfl
       · simp only [plAs, plA, Bool.and_self, Bool.and_true, Bool.true_and, *]
       · (with_reducible apply c_impl_partOk) <;> assumption
       · simp only [aput, Bool.false_eq_true, if_false, if_true, List.getElem?_cons_succ, List.getElem?_cons_zero, rootableA, List.set, List.set_cons_succ, List.set_cons_zero, List.map_cons, List.map_nil, aun, menA, menAs, Bool.or_false, Bool.or_self, beq_self_eq_true, Nat.reduceBEq, reduceIte]; with_reducible rfl)
    | (with_reducible apply al_snap (f := 108)
       · first | exact gchk_none rfl | simp only [gchk, graw, List.getElem?_toArray, List.getElem?_cons_succ, List.getElem?_cons_zero, Bool.not_true, Bool.not_false, *]
       · rfl
       · exact Go.Proofs.Try.call108
       · simp only [ast, qv, ard, aconst, arefs, arefss, aview, aviews, atake, atakes, true_or, or_true, or_self, and_self, and_true, true_and, not_false_eq_true, ne_eq, eq_self, aput, Bool.false_eq_true, if_false, if_true, List.getElem?_cons_succ, List.getElem?_cons_zero, rootableA, List.set, List.set_cons_succ, List.set_cons_zero, List.map_cons, List.map_nil, aun, menA, menAs, Bool.or_false, Bool.or_self, beq_self_eq_true, Nat.reduceBEq, reduceIte, binA, unA, convA, intBin, strBin, bndA, minA, maxA, ards, List.toList_toArray, List.getElem?_toArray, reduceCtorEq, aget, agetN, aset, asetR, asetN, asetq, asetc, aclr, rootA, scalarA, hitA, hitAs, List.any_nil, List.any_cons, List.isPrefixOf, List.nil_append, List.cons_append, List.append_nil, List.append_assoc, alen, alens, plA, plAs, fitsA, fieldOk, List.take_zero, List.take_succ_cons, List.take_nil, List.length_cons, List.length_nil, Nat.reduceAdd, Nat.reduceLT, Nat.reduceEqDiff, Nat.reduceBNe, Bool.and_self, Bool.and_true, Bool.true_and, Bool.not_true, Bool.not_false, bne_iff_ne, bne_self_eq_false, Nat.zero_add, Nat.add_zero, Int.toNat_natCast, List.getElem?_map, Option.map_some, List.length_replicate, List.length_map, List.length_set, List.length_append, Bool.or_true, Bool.true_or, beq_self_eq_true, Int.natCast_nonneg, Int.reduceBEq, Int.reduceBNe, Int.reduceLT, Int.reduceLE, Int.reduceGT, Int.reduceGE, Int.reduceAdd, Int.reduceSub, Int.reduceNeg, decide_true, decide_false, Bool.true_and, Bool.false_and, Bool.and_true, Bool.and_false, kind3, size3, kind9, size9, kind89, size89, off89_0, off89_1, off89_2, *]; with_reducible rfl
       · simp only [asnap, asnaps, ash, ashs, List.drop_zero, ast, qv, ard, aconst, arefs, arefss, aview, aviews, atake, atakes, true_or, or_true, or_self, and_self, and_true, true_and, not_false_eq_true, ne_eq, eq_self, aput, Bool.false_eq_true, if_false, if_true, List.getElem?_cons_succ, List.getElem?_cons_zero, rootableA, List.set, List.set_cons_succ, List.set_cons_zero, List.map_cons, List.map_nil, aun, menA, menAs, Bool.or_false, Bool.or_self, beq_self_eq_true, Nat.reduceBEq, reduceIte, binA, unA, convA, intBin, strBin, bndA, minA, maxA, ards, List.toList_toArray, List.getElem?_toArray, reduceCtorEq, aget, agetN, aset, asetR, asetN, asetq, asetc, aclr, rootA, scalarA, hitA, hitAs, List.any_nil, List.any_cons, List.isPrefixOf, List.nil_append, List.cons_append, List.append_nil, List.append_assoc, alen, alens, plA, plAs, fitsA, fieldOk, List.take_zero, List.take_succ_cons, List.take_nil, List.length_cons, List.length_nil, Nat.reduceAdd, Nat.reduceLT, Nat.reduceEqDiff, Nat.reduceBNe, Bool.and_self, Bool.and_true, Bool.true_and, Bool.not_true, Bool.not_false, bne_iff_ne, bne_self_eq_false, Nat.zero_add, Nat.add_zero, Int.toNat_natCast, List.getElem?_map, Option.map_some, List.length_replicate, List.length_map, List.length_set, List.length_append, Bool.or_true, Bool.true_or, beq_self_eq_true, Int.natCast_nonneg, Int.reduceBEq, Int.reduceBNe, Int.reduceLT, Int.reduceLE, Int.reduceGT, Int.reduceGE, Int.reduceAdd, Int.reduceSub, Int.reduceNeg, decide_true, decide_false, Bool.true_and, Bool.false_and, Bool.and_true, Bool.and_false, kind3, size3, kind9, size9, kind89, size89, off89_0, off89_1, off89_2, *]; with_reducible rfl
       · (with_reducible apply c_impl_partOk) <;> assumption
       · simp only [noSh, noShs, Bool.and_self, *]
       · simp only [aput, Bool.false_eq_true, if_false, if_true, List.getElem?_cons_succ, List.getElem?_cons_zero, rootableA, List.set, List.set_cons_succ, List.set_cons_zero, List.map_cons, List.map_nil, aun, menA, menAs, Bool.or_false, Bool.or_self, beq_self_eq_true, Nat.reduceBEq, reduceIte]; with_reducible rfl)
    | (with_reducible apply al_s hT true
       · first | exact gchk_none rfl | simp only [gchk, graw, List.getElem?_toArray, List.getElem?_cons_succ, List.getElem?_cons_zero, Bool.not_true, Bool.not_false, *]
       · simp only [ast, qv, ard, aconst, arefs, arefss, aview, aviews, atake, atakes, true_or, or_true, or_self, and_self, and_true, true_and, not_false_eq_true, ne_eq, eq_self, aput, Bool.false_eq_true, if_false, if_true, List.getElem?_cons_succ, List.getElem?_cons_zero, rootableA, List.set, List.set_cons_succ, List.set_cons_zero, List.map_cons, List.map_nil, aun, menA, menAs, Bool.or_false, Bool.or_self, beq_self_eq_true, Nat.reduceBEq, reduceIte, binA, unA, convA, intBin, strBin, bndA, minA, maxA, ards, List.toList_toArray, List.getElem?_toArray, reduceCtorEq, aget, agetN, aset, asetR, asetN, asetq, asetc, aclr, rootA, scalarA, hitA, hitAs, List.any_nil, List.any_cons, List.isPrefixOf, List.nil_append, List.cons_append, List.append_nil, List.append_assoc, alen, alens, plA, plAs, fitsA, fieldOk, List.take_zero, List.take_succ_cons, List.take_nil, List.length_cons, List.length_nil, Nat.reduceAdd, Nat.reduceLT, Nat.reduceEqDiff, Nat.reduceBNe, Bool.and_self, Bool.and_true, Bool.true_and, Bool.not_true, Bool.not_false, bne_iff_ne, bne_self_eq_false, Nat.zero_add, Nat.add_zero, Int.toNat_natCast, List.getElem?_map, Option.map_some, List.length_replicate, List.length_map, List.length_set, List.length_append, Bool.or_true, Bool.true_or, beq_self_eq_true, Int.natCast_nonneg, Int.reduceBEq, Int.reduceBNe, Int.reduceLT, Int.reduceLE, Int.reduceGT, Int.reduceGE, Int.reduceAdd, Int.reduceSub, Int.reduceNeg, decide_true, decide_false, Bool.true_and, Bool.false_and, Bool.and_true, Bool.and_false, kind3, size3, kind9, size9, kind89, size89, off89_0, off89_1, off89_2, *]
         first | done | with_reducible rfl)
    | (with_reducible apply al_q hT
       · first | exact gchk_none rfl | simp only [gchk, graw, List.getElem?_toArray, List.getElem?_cons_succ, List.getElem?_cons_zero, Bool.not_true, Bool.not_false, *]
       · simp only [ast, qv, ard, aconst, arefs, arefss, aview, aviews, atake, atakes, true_or, or_true, or_self, and_self, and_true, true_and, not_false_eq_true, ne_eq, eq_self, aput, Bool.false_eq_true, if_false, if_true, List.getElem?_cons_succ, List.getElem?_cons_zero, rootableA, List.set, List.set_cons_succ, List.set_cons_zero, List.map_cons, List.map_nil, aun, menA, menAs, Bool.or_false, Bool.or_self, beq_self_eq_true, Nat.reduceBEq, reduceIte, binA, unA, convA, intBin, strBin, bndA, minA, maxA, ards, List.toList_toArray, List.getElem?_toArray, reduceCtorEq, aget, agetN, aset, asetR, asetN, asetq, asetc, aclr, rootA, scalarA, hitA, hitAs, List.any_nil, List.any_cons, List.isPrefixOf, List.nil_append, List.cons_append, List.append_nil, List.append_assoc, alen, alens, plA, plAs, fitsA, fieldOk, List.take_zero, List.take_succ_cons, List.take_nil, List.length_cons, List.length_nil, Nat.reduceAdd, Nat.reduceLT, Nat.reduceEqDiff, Nat.reduceBNe, Bool.and_self, Bool.and_true, Bool.true_and, Bool.not_true, Bool.not_false, bne_iff_ne, bne_self_eq_false, Nat.zero_add, Nat.add_zero, Int.toNat_natCast, List.getElem?_map, Option.map_some, List.length_replicate, List.length_map, List.length_set, List.length_append, Bool.or_true, Bool.true_or, beq_self_eq_true, Int.natCast_nonneg, Int.reduceBEq, Int.reduceBNe, Int.reduceLT, Int.reduceLE, Int.reduceGT, Int.reduceGE, Int.reduceAdd, Int.reduceSub, Int.reduceNeg, decide_true, decide_false, Bool.true_and, Bool.false_and, Bool.and_true, Bool.and_false, kind3, size3, kind9, size9, kind89, size89, off89_0, off89_1, off89_2, *]
         first | done | with_reducible rfl
       · simp only [aput, Bool.false_eq_true, if_false, if_true, List.getElem?_cons_succ, List.getElem?_cons_zero, rootableA, List.set, List.set_cons_succ, List.set_cons_zero, List.map_cons, List.map_nil, aun, menA, menAs, Bool.or_false, Bool.or_self, beq_self_eq_true, Nat.reduceBEq, reduceIte]; with_reducible rfl)
    | (with_reducible apply al_skip
       · simp only [gchk, graw, List.getElem?_toArray, List.getElem?_cons_succ, List.getElem?_cons_zero, Bool.not_true, Bool.not_false, *]
       · simp only [aput, Bool.false_eq_true, if_false, if_true, List.getElem?_cons_succ, List.getElem?_cons_zero, rootableA, List.set, List.set_cons_succ, List.set_cons_zero, List.map_cons, List.map_nil, aun, menA, menAs, Bool.or_false, Bool.or_self, beq_self_eq_true, Nat.reduceBEq, reduceIte]; with_reducible rfl)
    | (with_reducible apply al_caseT rfl
       · simp only [gchk, graw, List.getElem?_toArray, List.getElem?_cons_succ, List.getElem?_cons_zero, Bool.not_true, Bool.not_false, *]; with_reducible rfl
       · simp only [aput, Bool.false_eq_true, if_false, if_true, List.getElem?_cons_succ, List.getElem?_cons_zero, rootableA, List.set, List.set_cons_succ, List.set_cons_zero, List.map_cons, List.map_nil, aun, menA, menAs, Bool.or_false, Bool.or_self, beq_self_eq_true, Nat.reduceBEq, reduceIte]; with_reducible rfl
       intro h
       try simp only [Bool.not_eq_true', Bool.not_eq_false'] at h
       rotate_left
       intro h
       try simp only [Bool.not_eq_true', Bool.not_eq_false'] at h
       rotate_right
       fail_if_success (with_reducible have hh : true = true := h))
    | (with_reducible apply al_caseF rfl
       · simp only [gchk, graw, List.getElem?_toArray, List.getElem?_cons_succ, List.getElem?_cons_zero, Bool.not_true, Bool.not_false, *]; with_reducible rfl
       · simp only [aput, Bool.false_eq_true, if_false, if_true, List.getElem?_cons_succ, List.getElem?_cons_zero, rootableA, List.set, List.set_cons_succ, List.set_cons_zero, List.map_cons, List.map_nil, aun, menA, menAs, Bool.or_false, Bool.or_self, beq_self_eq_true, Nat.reduceBEq, reduceIte]; with_reducible rfl
       intro h
       try simp only [Bool.not_eq_true', Bool.not_eq_false'] at h
       rotate_left
       intro h
       try simp only [Bool.not_eq_true', Bool.not_eq_false'] at h
       rotate_right
       fail_if_success (with_reducible have hh : false = false := h))
    )
  all_goals ((simp only [ares, aresL, ares1, ard, aview, aviews, atake, atakes, List.getElem?_cons_succ, List.getElem?_cons_zero, aget, agetN, rootA, kind3, size3, kind9, size9, kind89, size89, off89_0, off89_1, off89_2, fitsA, reduceCtorEq, if_true, alens, alen, *]); clear he; simp_all [termB]; try (intro a b; have := h a; omega))
end Go.Proofs.Ytjmodjanaeoiiaa
