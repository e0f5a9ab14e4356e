/- Contracts: a filter that is right. -/
import Derived.Test.YtjmodjanaeoiiaaFnC
namespace Go.Proofs.Ytjmodjanaeoiiaa
open Go Go.RowKit Go.Bv
set_option linter.unusedSimpArgs false
set_option linter.unusedVariables false

structure TermV where
  op : Int
  num : Int
  text : ByteArray
def encT (t : TermV) : AV := .agg [.int .i64 t.op, .int .i64 t.num, .str t.text]
theorem encT_eq (t : TermV) : encT t = .agg [.int .i64 t.op, .int .i64 t.num, .str t.text] := rfl
def TermV.fits (t : TermV) : Prop := t.text.size < 4611686018427387904
/-- What stands on the stack behind a term. -/
def step1 (n : Int) (t : TermV) : Option Int := if termB t.op t.num t.text = true ∧ ¬ n < takesI t.op then some (n + (1 - takesI t.op)) else none
def run1 : List TermV → Int → Option Int
  | [], n => some n
  | t :: ts, n => match step1 n t with | some m => run1 ts m | none => none
def filterB (f : List TermV) : Bool := match run1 f 0 with
  | some n => decide ((f.length : Int) ≤ 12) && (n == 1 || (f.length : Int) == 0)
  | none => false

theorem run1_app (f : List TermV) : ∀ (g : List TermV) (n : Int), run1 (f ++ g) n = match run1 f n with | some m => run1 g m | none => none := by
  induction f with
  | nil => intro g n; rfl
  | cons t f ih =>
    intro g n
    simp only [List.cons_append, run1]
    cases step1 n t with
    | none => rfl
    | some m => exact ih g m
/-- The stack behind the first i. -/
theorem run1_take {f : List TermV} {i : Nat} {t : TermV} (h : f[i]? = some t) (n : Int) : run1 (f.take (i + 1)) n = match run1 (f.take i) n with | some m => step1 m t | none => none := by
  have hi := (List.getElem?_eq_some_iff.1 h).1
  rw [← List.take_append_getElem hi, run1_app]
  have : f[i] = t := (List.getElem?_eq_some_iff.1 h).2
  rw [this]
  cases run1 (f.take i) n with
  | none => rfl
  | some m => simp only [run1]; cases step1 m t <;> rfl
theorem run1_none {f : List TermV} {i : Nat} (h : run1 (f.take i) 0 = none) : filterB f = false := by
  unfold filterB
  rw [← List.take_append_drop i f, run1_app, h]

theorem takesI_le (o : Int) : 0 ≤ takesI o ∧ takesI o ≤ 2 := by unfold takesI; split <;> (try split) <;> omega
theorem c_impl_FilterOk {s : Nat} (f : List TermV) (hf : f.length < 4611686018427387904) (ht : ∀ t ∈ f, t.fits) : Sound P 14 [.lst false s (f.map encT)] (.bool (filterB f)) := by
  refine sound_body hT Go.Proofs.Try.func14 rfl ?_
  rw [Go.Proofs.Try.results14, Go.Proofs.Try.ntmps14]
  simp only [frame, List.length_cons, List.length_nil, List.replicate, List.cons_append, List.nil_append, Nat.reduceAdd, Nat.reduceSub]
  repeat' (first
    | with_reducible refine aw_seq ?_
    | with_reducible refine aw_block ?_
    | with_reducible refine aw_skip ?_
    | with_reducible refine aw_exit ?_
    | with_reducible refine aw_ret ?_
    | with_reducible refine thenA_n ?_
    | with_reducible refine thenA_r ?_
    | with_reducible refine thenA_x ?_
    | with_reducible refine blockA_n ?_
    | with_reducible refine blockA_r ?_
    | with_reducible refine blockA_e ?_
    | with_reducible refine blockA_x (by decide) ?_
    | with_reducible refine ends_r ?_
    | with_reducible refine ends_n ?_
    | with_reducible refine aw_reg ?_
    | (with_reducible refine aw_any hT ?_ ?_
       · decide +kernel)
    | with_reducible refine al_nil ?_
    | (with_reducible apply aw_cond
       · simp only [ard, aview, List.getElem?_cons_succ, List.getElem?_cons_zero, *]; with_reducible rfl
       all_goals (intro h; try simp only [Bool.not_eq_true', Bool.not_eq_false', reduceCtorEq] at h))
    | (with_reducible apply al_call (f := 55)
       · first | exact gchk_none rfl | simp only [gchk, graw, List.getElem?_toArray, List.getElem?_cons_succ, List.getElem?_cons_zero, Bool.not_true, Bool.not_false, *]
       · rfl
       · exact Go.Proofs.Try.call55
       · simp only [ast, qv, ard, aconst, arefs, arefss, aview, aviews, atake, atakes, true_or, or_true, or_self, and_self, and_true, true_and, not_false_eq_true, ne_eq, eq_self, aput, Bool.false_eq_true, if_false, if_true, List.getElem?_cons_succ, List.getElem?_cons_zero, rootableA, List.set, List.set_cons_succ, List.set_cons_zero, List.map_cons, List.map_nil, aun, menA, menAs, Bool.or_false, Bool.or_self, beq_self_eq_true, Nat.reduceBEq, reduceIte, binA, unA, convA, intBin, strBin, bndA, minA, maxA, ards, List.toList_toArray, List.getElem?_toArray, reduceCtorEq, aget, agetN, aset, asetR, asetN, asetq, asetc, aclr, rootA, scalarA, hitA, hitAs, List.any_nil, List.any_cons, List.isPrefixOf, List.nil_append, List.cons_append, List.append_nil, List.append_assoc, alen, alens, plA, plAs, fitsA, fieldOk, List.take_zero, List.take_succ_cons, List.take_nil, List.length_cons, List.length_nil, Nat.reduceAdd, Nat.reduceLT, Nat.reduceEqDiff, Nat.reduceBNe, Bool.and_self, Bool.and_true, Bool.true_and, Bool.not_true, Bool.not_false, bne_iff_ne, bne_self_eq_false, Nat.zero_add, Nat.add_zero, Int.toNat_natCast, List.getElem?_map, Option.map_some, List.length_replicate, List.length_map, List.length_set, List.length_append, Bool.or_true, Bool.true_or, beq_self_eq_true, Int.natCast_nonneg, Int.reduceBEq, Int.reduceBNe, Int.reduceLT, Int.reduceLE, Int.reduceGT, Int.reduceGE, Int.reduceAdd, Int.reduceSub, Int.reduceNeg, decide_true, decide_false, Bool.true_and, Bool.false_and, Bool.and_true, Bool.and_false, kind3, size3, kind4, size4, kind9, size9, kind25, size25, kind89, size89, off89_0, off89_1, off89_2, zero89, List.length_map, *]; with_reducible rfl
       · simp only [plAs, plA, Bool.and_self, Bool.and_true, Bool.true_and, *]
       · (with_reducible apply c_impl_termOk) <;> assumption
       · simp only [aput, Bool.false_eq_true, if_false, if_true, List.getElem?_cons_succ, List.getElem?_cons_zero, rootableA, List.set, List.set_cons_succ, List.set_cons_zero, List.map_cons, List.map_nil, aun, menA, menAs, Bool.or_false, Bool.or_self, beq_self_eq_true, Nat.reduceBEq, reduceIte]; with_reducible rfl)
    | (with_reducible apply al_snap (f := 55)
       · first | exact gchk_none rfl | simp only [gchk, graw, List.getElem?_toArray, List.getElem?_cons_succ, List.getElem?_cons_zero, Bool.not_true, Bool.not_false, *]
       · rfl
       · exact Go.Proofs.Try.call55
       · simp only [ast, qv, ard, aconst, arefs, arefss, aview, aviews, atake, atakes, true_or, or_true, or_self, and_self, and_true, true_and, not_false_eq_true, ne_eq, eq_self, aput, Bool.false_eq_true, if_false, if_true, List.getElem?_cons_succ, List.getElem?_cons_zero, rootableA, List.set, List.set_cons_succ, List.set_cons_zero, List.map_cons, List.map_nil, aun, menA, menAs, Bool.or_false, Bool.or_self, beq_self_eq_true, Nat.reduceBEq, reduceIte, binA, unA, convA, intBin, strBin, bndA, minA, maxA, ards, List.toList_toArray, List.getElem?_toArray, reduceCtorEq, aget, agetN, aset, asetR, asetN, asetq, asetc, aclr, rootA, scalarA, hitA, hitAs, List.any_nil, List.any_cons, List.isPrefixOf, List.nil_append, List.cons_append, List.append_nil, List.append_assoc, alen, alens, plA, plAs, fitsA, fieldOk, List.take_zero, List.take_succ_cons, List.take_nil, List.length_cons, List.length_nil, Nat.reduceAdd, Nat.reduceLT, Nat.reduceEqDiff, Nat.reduceBNe, Bool.and_self, Bool.and_true, Bool.true_and, Bool.not_true, Bool.not_false, bne_iff_ne, bne_self_eq_false, Nat.zero_add, Nat.add_zero, Int.toNat_natCast, List.getElem?_map, Option.map_some, List.length_replicate, List.length_map, List.length_set, List.length_append, Bool.or_true, Bool.true_or, beq_self_eq_true, Int.natCast_nonneg, Int.reduceBEq, Int.reduceBNe, Int.reduceLT, Int.reduceLE, Int.reduceGT, Int.reduceGE, Int.reduceAdd, Int.reduceSub, Int.reduceNeg, decide_true, decide_false, Bool.true_and, Bool.false_and, Bool.and_true, Bool.and_false, kind3, size3, kind4, size4, kind9, size9, kind25, size25, kind89, size89, off89_0, off89_1, off89_2, zero89, List.length_map, *]; with_reducible rfl
       · simp only [asnap, asnaps, ash, ashs, List.drop_zero, ast, qv, ard, aconst, arefs, arefss, aview, aviews, atake, atakes, true_or, or_true, or_self, and_self, and_true, true_and, not_false_eq_true, ne_eq, eq_self, aput, Bool.false_eq_true, if_false, if_true, List.getElem?_cons_succ, List.getElem?_cons_zero, rootableA, List.set, List.set_cons_succ, List.set_cons_zero, List.map_cons, List.map_nil, aun, menA, menAs, Bool.or_false, Bool.or_self, beq_self_eq_true, Nat.reduceBEq, reduceIte, binA, unA, convA, intBin, strBin, bndA, minA, maxA, ards, List.toList_toArray, List.getElem?_toArray, reduceCtorEq, aget, agetN, aset, asetR, asetN, asetq, asetc, aclr, rootA, scalarA, hitA, hitAs, List.any_nil, List.any_cons, List.isPrefixOf, List.nil_append, List.cons_append, List.append_nil, List.append_assoc, alen, alens, plA, plAs, fitsA, fieldOk, List.take_zero, List.take_succ_cons, List.take_nil, List.length_cons, List.length_nil, Nat.reduceAdd, Nat.reduceLT, Nat.reduceEqDiff, Nat.reduceBNe, Bool.and_self, Bool.and_true, Bool.true_and, Bool.not_true, Bool.not_false, bne_iff_ne, bne_self_eq_false, Nat.zero_add, Nat.add_zero, Int.toNat_natCast, List.getElem?_map, Option.map_some, List.length_replicate, List.length_map, List.length_set, List.length_append, Bool.or_true, Bool.true_or, beq_self_eq_true, Int.natCast_nonneg, Int.reduceBEq, Int.reduceBNe, Int.reduceLT, Int.reduceLE, Int.reduceGT, Int.reduceGE, Int.reduceAdd, Int.reduceSub, Int.reduceNeg, decide_true, decide_false, Bool.true_and, Bool.false_and, Bool.and_true, Bool.and_false, kind3, size3, kind4, size4, kind9, size9, kind25, size25, kind89, size89, off89_0, off89_1, off89_2, zero89, List.length_map, *]; with_reducible rfl
       · (with_reducible apply c_impl_termOk) <;> assumption
       · simp only [noSh, noShs, Bool.and_self, *]
       · simp only [aput, Bool.false_eq_true, if_false, if_true, List.getElem?_cons_succ, List.getElem?_cons_zero, rootableA, List.set, List.set_cons_succ, List.set_cons_zero, List.map_cons, List.map_nil, aun, menA, menAs, Bool.or_false, Bool.or_self, beq_self_eq_true, Nat.reduceBEq, reduceIte]; with_reducible rfl)
    | (with_reducible apply al_call (f := 56)
       · first | exact gchk_none rfl | simp only [gchk, graw, List.getElem?_toArray, List.getElem?_cons_succ, List.getElem?_cons_zero, Bool.not_true, Bool.not_false, *]
       · rfl
       · exact Go.Proofs.Try.call56
       · simp only [ast, qv, ard, aconst, arefs, arefss, aview, aviews, atake, atakes, true_or, or_true, or_self, and_self, and_true, true_and, not_false_eq_true, ne_eq, eq_self, aput, Bool.false_eq_true, if_false, if_true, List.getElem?_cons_succ, List.getElem?_cons_zero, rootableA, List.set, List.set_cons_succ, List.set_cons_zero, List.map_cons, List.map_nil, aun, menA, menAs, Bool.or_false, Bool.or_self, beq_self_eq_true, Nat.reduceBEq, reduceIte, binA, unA, convA, intBin, strBin, bndA, minA, maxA, ards, List.toList_toArray, List.getElem?_toArray, reduceCtorEq, aget, agetN, aset, asetR, asetN, asetq, asetc, aclr, rootA, scalarA, hitA, hitAs, List.any_nil, List.any_cons, List.isPrefixOf, List.nil_append, List.cons_append, List.append_nil, List.append_assoc, alen, alens, plA, plAs, fitsA, fieldOk, List.take_zero, List.take_succ_cons, List.take_nil, List.length_cons, List.length_nil, Nat.reduceAdd, Nat.reduceLT, Nat.reduceEqDiff, Nat.reduceBNe, Bool.and_self, Bool.and_true, Bool.true_and, Bool.not_true, Bool.not_false, bne_iff_ne, bne_self_eq_false, Nat.zero_add, Nat.add_zero, Int.toNat_natCast, List.getElem?_map, Option.map_some, List.length_replicate, List.length_map, List.length_set, List.length_append, Bool.or_true, Bool.true_or, beq_self_eq_true, Int.natCast_nonneg, Int.reduceBEq, Int.reduceBNe, Int.reduceLT, Int.reduceLE, Int.reduceGT, Int.reduceGE, Int.reduceAdd, Int.reduceSub, Int.reduceNeg, decide_true, decide_false, Bool.true_and, Bool.false_and, Bool.and_true, Bool.and_false, kind3, size3, kind4, size4, kind9, size9, kind25, size25, kind89, size89, off89_0, off89_1, off89_2, zero89, List.length_map, *]; with_reducible rfl
       · simp only [plAs, plA, Bool.and_self, Bool.and_true, Bool.true_and, *]
       · (with_reducible apply c_impl_takes) <;> assumption
       · simp only [aput, Bool.false_eq_true, if_false, if_true, List.getElem?_cons_succ, List.getElem?_cons_zero, rootableA, List.set, List.set_cons_succ, List.set_cons_zero, List.map_cons, List.map_nil, aun, menA, menAs, Bool.or_false, Bool.or_self, beq_self_eq_true, Nat.reduceBEq, reduceIte]; with_reducible rfl)
    | (with_reducible apply al_snap (f := 56)
       · first | exact gchk_none rfl | simp only [gchk, graw, List.getElem?_toArray, List.getElem?_cons_succ, List.getElem?_cons_zero, Bool.not_true, Bool.not_false, *]
       · rfl
       · exact Go.Proofs.Try.call56
       · simp only [ast, qv, ard, aconst, arefs, arefss, aview, aviews, atake, atakes, true_or, or_true, or_self, and_self, and_true, true_and, not_false_eq_true, ne_eq, eq_self, aput, Bool.false_eq_true, if_false, if_true, List.getElem?_cons_succ, List.getElem?_cons_zero, rootableA, List.set, List.set_cons_succ, List.set_cons_zero, List.map_cons, List.map_nil, aun, menA, menAs, Bool.or_false, Bool.or_self, beq_self_eq_true, Nat.reduceBEq, reduceIte, binA, unA, convA, intBin, strBin, bndA, minA, maxA, ards, List.toList_toArray, List.getElem?_toArray, reduceCtorEq, aget, agetN, aset, asetR, asetN, asetq, asetc, aclr, rootA, scalarA, hitA, hitAs, List.any_nil, List.any_cons, List.isPrefixOf, List.nil_append, List.cons_append, List.append_nil, List.append_assoc, alen, alens, plA, plAs, fitsA, fieldOk, List.take_zero, List.take_succ_cons, List.take_nil, List.length_cons, List.length_nil, Nat.reduceAdd, Nat.reduceLT, Nat.reduceEqDiff, Nat.reduceBNe, Bool.and_self, Bool.and_true, Bool.true_and, Bool.not_true, Bool.not_false, bne_iff_ne, bne_self_eq_false, Nat.zero_add, Nat.add_zero, Int.toNat_natCast, List.getElem?_map, Option.map_some, List.length_replicate, List.length_map, List.length_set, List.length_append, Bool.or_true, Bool.true_or, beq_self_eq_true, Int.natCast_nonneg, Int.reduceBEq, Int.reduceBNe, Int.reduceLT, Int.reduceLE, Int.reduceGT, Int.reduceGE, Int.reduceAdd, Int.reduceSub, Int.reduceNeg, decide_true, decide_false, Bool.true_and, Bool.false_and, Bool.and_true, Bool.and_false, kind3, size3, kind4, size4, kind9, size9, kind25, size25, kind89, size89, off89_0, off89_1, off89_2, zero89, List.length_map, *]; with_reducible rfl
       · simp only [asnap, asnaps, ash, ashs, List.drop_zero, ast, qv, ard, aconst, arefs, arefss, aview, aviews, atake, atakes, true_or, or_true, or_self, and_self, and_true, true_and, not_false_eq_true, ne_eq, eq_self, aput, Bool.false_eq_true, if_false, if_true, List.getElem?_cons_succ, List.getElem?_cons_zero, rootableA, List.set, List.set_cons_succ, List.set_cons_zero, List.map_cons, List.map_nil, aun, menA, menAs, Bool.or_false, Bool.or_self, beq_self_eq_true, Nat.reduceBEq, reduceIte, binA, unA, convA, intBin, strBin, bndA, minA, maxA, ards, List.toList_toArray, List.getElem?_toArray, reduceCtorEq, aget, agetN, aset, asetR, asetN, asetq, asetc, aclr, rootA, scalarA, hitA, hitAs, List.any_nil, List.any_cons, List.isPrefixOf, List.nil_append, List.cons_append, List.append_nil, List.append_assoc, alen, alens, plA, plAs, fitsA, fieldOk, List.take_zero, List.take_succ_cons, List.take_nil, List.length_cons, List.length_nil, Nat.reduceAdd, Nat.reduceLT, Nat.reduceEqDiff, Nat.reduceBNe, Bool.and_self, Bool.and_true, Bool.true_and, Bool.not_true, Bool.not_false, bne_iff_ne, bne_self_eq_false, Nat.zero_add, Nat.add_zero, Int.toNat_natCast, List.getElem?_map, Option.map_some, List.length_replicate, List.length_map, List.length_set, List.length_append, Bool.or_true, Bool.true_or, beq_self_eq_true, Int.natCast_nonneg, Int.reduceBEq, Int.reduceBNe, Int.reduceLT, Int.reduceLE, Int.reduceGT, Int.reduceGE, Int.reduceAdd, Int.reduceSub, Int.reduceNeg, decide_true, decide_false, Bool.true_and, Bool.false_and, Bool.and_true, Bool.and_false, kind3, size3, kind4, size4, kind9, size9, kind25, size25, kind89, size89, off89_0, off89_1, off89_2, zero89, List.length_map, *]; with_reducible rfl
       · (with_reducible apply c_impl_takes) <;> assumption
       · simp only [noSh, noShs, Bool.and_self, *]
       · simp only [aput, Bool.false_eq_true, if_false, if_true, List.getElem?_cons_succ, List.getElem?_cons_zero, rootableA, List.set, List.set_cons_succ, List.set_cons_zero, List.map_cons, List.map_nil, aun, menA, menAs, Bool.or_false, Bool.or_self, beq_self_eq_true, Nat.reduceBEq, reduceIte]; with_reducible rfl)
    | (with_reducible apply al_s hT true
       · first | exact gchk_none rfl | simp only [gchk, graw, List.getElem?_toArray, List.getElem?_cons_succ, List.getElem?_cons_zero, Bool.not_true, Bool.not_false, *]
       · simp only [ast, qv, ard, aconst, arefs, arefss, aview, aviews, atake, atakes, true_or, or_true, or_self, and_self, and_true, true_and, not_false_eq_true, ne_eq, eq_self, aput, Bool.false_eq_true, if_false, if_true, List.getElem?_cons_succ, List.getElem?_cons_zero, rootableA, List.set, List.set_cons_succ, List.set_cons_zero, List.map_cons, List.map_nil, aun, menA, menAs, Bool.or_false, Bool.or_self, beq_self_eq_true, Nat.reduceBEq, reduceIte, binA, unA, convA, intBin, strBin, bndA, minA, maxA, ards, List.toList_toArray, List.getElem?_toArray, reduceCtorEq, aget, agetN, aset, asetR, asetN, asetq, asetc, aclr, rootA, scalarA, hitA, hitAs, List.any_nil, List.any_cons, List.isPrefixOf, List.nil_append, List.cons_append, List.append_nil, List.append_assoc, alen, alens, plA, plAs, fitsA, fieldOk, List.take_zero, List.take_succ_cons, List.take_nil, List.length_cons, List.length_nil, Nat.reduceAdd, Nat.reduceLT, Nat.reduceEqDiff, Nat.reduceBNe, Bool.and_self, Bool.and_true, Bool.true_and, Bool.not_true, Bool.not_false, bne_iff_ne, bne_self_eq_false, Nat.zero_add, Nat.add_zero, Int.toNat_natCast, List.getElem?_map, Option.map_some, List.length_replicate, List.length_map, List.length_set, List.length_append, Bool.or_true, Bool.true_or, beq_self_eq_true, Int.natCast_nonneg, Int.reduceBEq, Int.reduceBNe, Int.reduceLT, Int.reduceLE, Int.reduceGT, Int.reduceGE, Int.reduceAdd, Int.reduceSub, Int.reduceNeg, decide_true, decide_false, Bool.true_and, Bool.false_and, Bool.and_true, Bool.and_false, kind3, size3, kind4, size4, kind9, size9, kind25, size25, kind89, size89, off89_0, off89_1, off89_2, zero89, List.length_map, *]
         first | done | with_reducible rfl)
    | (with_reducible apply al_q hT
       · first | exact gchk_none rfl | simp only [gchk, graw, List.getElem?_toArray, List.getElem?_cons_succ, List.getElem?_cons_zero, Bool.not_true, Bool.not_false, *]
       · simp only [ast, qv, ard, aconst, arefs, arefss, aview, aviews, atake, atakes, true_or, or_true, or_self, and_self, and_true, true_and, not_false_eq_true, ne_eq, eq_self, aput, Bool.false_eq_true, if_false, if_true, List.getElem?_cons_succ, List.getElem?_cons_zero, rootableA, List.set, List.set_cons_succ, List.set_cons_zero, List.map_cons, List.map_nil, aun, menA, menAs, Bool.or_false, Bool.or_self, beq_self_eq_true, Nat.reduceBEq, reduceIte, binA, unA, convA, intBin, strBin, bndA, minA, maxA, ards, List.toList_toArray, List.getElem?_toArray, reduceCtorEq, aget, agetN, aset, asetR, asetN, asetq, asetc, aclr, rootA, scalarA, hitA, hitAs, List.any_nil, List.any_cons, List.isPrefixOf, List.nil_append, List.cons_append, List.append_nil, List.append_assoc, alen, alens, plA, plAs, fitsA, fieldOk, List.take_zero, List.take_succ_cons, List.take_nil, List.length_cons, List.length_nil, Nat.reduceAdd, Nat.reduceLT, Nat.reduceEqDiff, Nat.reduceBNe, Bool.and_self, Bool.and_true, Bool.true_and, Bool.not_true, Bool.not_false, bne_iff_ne, bne_self_eq_false, Nat.zero_add, Nat.add_zero, Int.toNat_natCast, List.getElem?_map, Option.map_some, List.length_replicate, List.length_map, List.length_set, List.length_append, Bool.or_true, Bool.true_or, beq_self_eq_true, Int.natCast_nonneg, Int.reduceBEq, Int.reduceBNe, Int.reduceLT, Int.reduceLE, Int.reduceGT, Int.reduceGE, Int.reduceAdd, Int.reduceSub, Int.reduceNeg, decide_true, decide_false, Bool.true_and, Bool.false_and, Bool.and_true, Bool.and_false, kind3, size3, kind4, size4, kind9, size9, kind25, size25, kind89, size89, off89_0, off89_1, off89_2, zero89, List.length_map, *]
         first | done | with_reducible rfl
       · simp only [aput, Bool.false_eq_true, if_false, if_true, List.getElem?_cons_succ, List.getElem?_cons_zero, rootableA, List.set, List.set_cons_succ, List.set_cons_zero, List.map_cons, List.map_nil, aun, menA, menAs, Bool.or_false, Bool.or_self, beq_self_eq_true, Nat.reduceBEq, reduceIte]; with_reducible rfl)
    | (with_reducible apply al_skip
       · simp only [gchk, graw, List.getElem?_toArray, List.getElem?_cons_succ, List.getElem?_cons_zero, Bool.not_true, Bool.not_false, *]
       · simp only [aput, Bool.false_eq_true, if_false, if_true, List.getElem?_cons_succ, List.getElem?_cons_zero, rootableA, List.set, List.set_cons_succ, List.set_cons_zero, List.map_cons, List.map_nil, aun, menA, menAs, Bool.or_false, Bool.or_self, beq_self_eq_true, Nat.reduceBEq, reduceIte]; with_reducible rfl)
    | (with_reducible apply al_caseT rfl
       · simp only [gchk, graw, List.getElem?_toArray, List.getElem?_cons_succ, List.getElem?_cons_zero, Bool.not_true, Bool.not_false, *]; with_reducible rfl
       · simp only [aput, Bool.false_eq_true, if_false, if_true, List.getElem?_cons_succ, List.getElem?_cons_zero, rootableA, List.set, List.set_cons_succ, List.set_cons_zero, List.map_cons, List.map_nil, aun, menA, menAs, Bool.or_false, Bool.or_self, beq_self_eq_true, Nat.reduceBEq, reduceIte]; with_reducible rfl
       intro h
       try simp only [Bool.not_eq_true', Bool.not_eq_false'] at h
       rotate_left
       intro h
       try simp only [Bool.not_eq_true', Bool.not_eq_false'] at h
       rotate_right
       fail_if_success (with_reducible have hh : true = true := h))
    | (with_reducible apply al_caseF rfl
       · simp only [gchk, graw, List.getElem?_toArray, List.getElem?_cons_succ, List.getElem?_cons_zero, Bool.not_true, Bool.not_false, *]; with_reducible rfl
       · simp only [aput, Bool.false_eq_true, if_false, if_true, List.getElem?_cons_succ, List.getElem?_cons_zero, rootableA, List.set, List.set_cons_succ, List.set_cons_zero, List.map_cons, List.map_nil, aun, menA, menAs, Bool.or_false, Bool.or_self, beq_self_eq_true, Nat.reduceBEq, reduceIte]; with_reducible rfl
       intro h
       try simp only [Bool.not_eq_true', Bool.not_eq_false'] at h
       rotate_left
       intro h
       try simp only [Bool.not_eq_true', Bool.not_eq_false'] at h
       rotate_right
       fail_if_success (with_reducible have hh : false = false := h))
    )
  · refine aw_loop [1, 4, 5, 9, 10, 11, 12, 13, 14, 15, 16, 17, 18, 19, 20, 21, 22, 23, 24, 25, 26, 27, 28, 29, 30, 31, 32, 33, 34, 35, 36, 37, 38] (fun n S => ∃ (i : Nat) (m : Int), n = f.length - i ∧ i ≤ f.length ∧ 0 ≤ m ∧ m ≤ i ∧ run1 (f.take i) 0 = some m ∧ S = [.lst false s (f.map encT), .undef, .bool false, .int .i64 m, .undef, .undef, .lst false s (f.map encT), .int .i64 f.length, .int .i64 i, .undef, .undef, .undef, .undef, .undef, .undef, .undef, .undef, .undef, .undef, .undef, .undef, .undef, .undef, .undef, .undef, .undef, .undef, .undef, .undef, .undef, .undef, .undef, .undef, .undef, .undef, .undef, .undef, .undef, .undef]) f.length ?_ ?_
    · refine ⟨0, 0, by simp, by omega, by omega, by omega, by simp [run1], ?_⟩
      simp only [clr, aput, Bool.false_eq_true, if_false, if_true, List.getElem?_cons_succ, List.getElem?_cons_zero, rootableA, List.set, List.set_cons_succ, List.set_cons_zero, List.map_cons, List.map_nil, aun, menA, menAs, Bool.or_false, Bool.or_self, beq_self_eq_true, Nat.reduceBEq, reduceIte]
      rfl
    · rintro n S ⟨i, m, hn, hi, hm0, hmi, hr, rfl⟩
      have hw : IntKind.i64.wrap ((i : Int) + 1) = ((i + 1 : Nat) : Int) := by rw [wrap_small] <;> omega
      by_cases hlt : i < f.length
      · have hd : decide ((i : Int) < (f.length : Int)) = true := by simp [hlt]
        obtain ⟨t, hti⟩ : ∃ t, f[i]? = some t := ⟨f[i], by simp [hlt]⟩
        have hfit : t.text.size < 4611686018427387904 := ht t (List.mem_of_getElem? hti)
        have htk := run1_take hti 0
        rw [hr] at htk
        simp only [step1] at htk
        clear ht
        obtain ⟨hk0, hk2⟩ := takesI_le t.op
        have hw1 : IntKind.i64.wrap (1 - takesI t.op) = 1 - takesI t.op := by rw [wrap_small] <;> omega
        have hw2 : IntKind.i64.wrap (m + (1 - takesI t.op)) = m + (1 - takesI t.op) := by rw [wrap_small] <;> omega
        repeat' (first
          | with_reducible refine aw_seq ?_
          | with_reducible refine aw_block ?_
          | with_reducible refine aw_skip ?_
          | with_reducible refine aw_exit ?_
          | with_reducible refine aw_ret ?_
          | with_reducible refine thenA_n ?_
          | with_reducible refine thenA_r ?_
          | with_reducible refine thenA_x ?_
          | with_reducible refine blockA_n ?_
          | with_reducible refine blockA_r ?_
          | with_reducible refine blockA_e ?_
          | with_reducible refine blockA_x (by decide) ?_
          | with_reducible refine ends_r ?_
          | with_reducible refine ends_n ?_
          | with_reducible refine aw_reg ?_
          | (with_reducible refine aw_any hT ?_ ?_
             · decide +kernel)
          | with_reducible refine al_nil ?_
          | (with_reducible apply aw_cond
             · simp only [ard, aview, List.getElem?_cons_succ, List.getElem?_cons_zero, *]; with_reducible rfl
             all_goals (intro h; try simp only [Bool.not_eq_true', Bool.not_eq_false', reduceCtorEq] at h))
          | (with_reducible apply al_call (f := 55)
             · first | exact gchk_none rfl | simp only [gchk, graw, List.getElem?_toArray, List.getElem?_cons_succ, List.getElem?_cons_zero, Bool.not_true, Bool.not_false, *]
             · rfl
             · exact Go.Proofs.Try.call55
             · simp only [ast, qv, ard, aconst, arefs, arefss, aview, aviews, atake, atakes, true_or, or_true, or_self, and_self, and_true, true_and, not_false_eq_true, ne_eq, eq_self, aput, Bool.false_eq_true, if_false, if_true, List.getElem?_cons_succ, List.getElem?_cons_zero, rootableA, List.set, List.set_cons_succ, List.set_cons_zero, List.map_cons, List.map_nil, aun, menA, menAs, Bool.or_false, Bool.or_self, beq_self_eq_true, Nat.reduceBEq, reduceIte, binA, unA, convA, intBin, strBin, bndA, minA, maxA, ards, List.toList_toArray, List.getElem?_toArray, reduceCtorEq, aget, agetN, aset, asetR, asetN, asetq, asetc, aclr, rootA, scalarA, hitA, hitAs, List.any_nil, List.any_cons, List.isPrefixOf, List.nil_append, List.cons_append, List.append_nil, List.append_assoc, alen, alens, plA, plAs, fitsA, fieldOk, List.take_zero, List.take_succ_cons, List.take_nil, List.length_cons, List.length_nil, Nat.reduceAdd, Nat.reduceLT, Nat.reduceEqDiff, Nat.reduceBNe, Bool.and_self, Bool.and_true, Bool.true_and, Bool.not_true, Bool.not_false, bne_iff_ne, bne_self_eq_false, Nat.zero_add, Nat.add_zero, Int.toNat_natCast, List.getElem?_map, Option.map_some, List.length_replicate, List.length_map, List.length_set, List.length_append, Bool.or_true, Bool.true_or, beq_self_eq_true, Int.natCast_nonneg, Int.reduceBEq, Int.reduceBNe, Int.reduceLT, Int.reduceLE, Int.reduceGT, Int.reduceGE, Int.reduceAdd, Int.reduceSub, Int.reduceNeg, decide_true, decide_false, Bool.true_and, Bool.false_and, Bool.and_true, Bool.and_false, kind3, size3, kind4, size4, kind9, size9, kind25, size25, kind89, size89, off89_0, off89_1, off89_2, zero89, List.length_map, encT, *]; with_reducible rfl
             · simp only [plAs, plA, Bool.and_self, Bool.and_true, Bool.true_and, *]
             · (with_reducible apply c_impl_termOk) <;> assumption
             · simp only [aput, Bool.false_eq_true, if_false, if_true, List.getElem?_cons_succ, List.getElem?_cons_zero, rootableA, List.set, List.set_cons_succ, List.set_cons_zero, List.map_cons, List.map_nil, aun, menA, menAs, Bool.or_false, Bool.or_self, beq_self_eq_true, Nat.reduceBEq, reduceIte]; with_reducible rfl)
          | (with_reducible apply al_snap (f := 55)
             · first | exact gchk_none rfl | simp only [gchk, graw, List.getElem?_toArray, List.getElem?_cons_succ, List.getElem?_cons_zero, Bool.not_true, Bool.not_false, *]
             · rfl
             · exact Go.Proofs.Try.call55
             · simp only [ast, qv, ard, aconst, arefs, arefss, aview, aviews, atake, atakes, true_or, or_true, or_self, and_self, and_true, true_and, not_false_eq_true, ne_eq, eq_self, aput, Bool.false_eq_true, if_false, if_true, List.getElem?_cons_succ, List.getElem?_cons_zero, rootableA, List.set, List.set_cons_succ, List.set_cons_zero, List.map_cons, List.map_nil, aun, menA, menAs, Bool.or_false, Bool.or_self, beq_self_eq_true, Nat.reduceBEq, reduceIte, binA, unA, convA, intBin, strBin, bndA, minA, maxA, ards, List.toList_toArray, List.getElem?_toArray, reduceCtorEq, aget, agetN, aset, asetR, asetN, asetq, asetc, aclr, rootA, scalarA, hitA, hitAs, List.any_nil, List.any_cons, List.isPrefixOf, List.nil_append, List.cons_append, List.append_nil, List.append_assoc, alen, alens, plA, plAs, fitsA, fieldOk, List.take_zero, List.take_succ_cons, List.take_nil, List.length_cons, List.length_nil, Nat.reduceAdd, Nat.reduceLT, Nat.reduceEqDiff, Nat.reduceBNe, Bool.and_self, Bool.and_true, Bool.true_and, Bool.not_true, Bool.not_false, bne_iff_ne, bne_self_eq_false, Nat.zero_add, Nat.add_zero, Int.toNat_natCast, List.getElem?_map, Option.map_some, List.length_replicate, List.length_map, List.length_set, List.length_append, Bool.or_true, Bool.true_or, beq_self_eq_true, Int.natCast_nonneg, Int.reduceBEq, Int.reduceBNe, Int.reduceLT, Int.reduceLE, Int.reduceGT, Int.reduceGE, Int.reduceAdd, Int.reduceSub, Int.reduceNeg, decide_true, decide_false, Bool.true_and, Bool.false_and, Bool.and_true, Bool.and_false, kind3, size3, kind4, size4, kind9, size9, kind25, size25, kind89, size89, off89_0, off89_1, off89_2, zero89, List.length_map, encT, *]; with_reducible rfl
             · simp only [asnap, asnaps, ash, ashs, List.drop_zero, ast, qv, ard, aconst, arefs, arefss, aview, aviews, atake, atakes, true_or, or_true, or_self, and_self, and_true, true_and, not_false_eq_true, ne_eq, eq_self, aput, Bool.false_eq_true, if_false, if_true, List.getElem?_cons_succ, List.getElem?_cons_zero, rootableA, List.set, List.set_cons_succ, List.set_cons_zero, List.map_cons, List.map_nil, aun, menA, menAs, Bool.or_false, Bool.or_self, beq_self_eq_true, Nat.reduceBEq, reduceIte, binA, unA, convA, intBin, strBin, bndA, minA, maxA, ards, List.toList_toArray, List.getElem?_toArray, reduceCtorEq, aget, agetN, aset, asetR, asetN, asetq, asetc, aclr, rootA, scalarA, hitA, hitAs, List.any_nil, List.any_cons, List.isPrefixOf, List.nil_append, List.cons_append, List.append_nil, List.append_assoc, alen, alens, plA, plAs, fitsA, fieldOk, List.take_zero, List.take_succ_cons, List.take_nil, List.length_cons, List.length_nil, Nat.reduceAdd, Nat.reduceLT, Nat.reduceEqDiff, Nat.reduceBNe, Bool.and_self, Bool.and_true, Bool.true_and, Bool.not_true, Bool.not_false, bne_iff_ne, bne_self_eq_false, Nat.zero_add, Nat.add_zero, Int.toNat_natCast, List.getElem?_map, Option.map_some, List.length_replicate, List.length_map, List.length_set, List.length_append, Bool.or_true, Bool.true_or, beq_self_eq_true, Int.natCast_nonneg, Int.reduceBEq, Int.reduceBNe, Int.reduceLT, Int.reduceLE, Int.reduceGT, Int.reduceGE, Int.reduceAdd, Int.reduceSub, Int.reduceNeg, decide_true, decide_false, Bool.true_and, Bool.false_and, Bool.and_true, Bool.and_false, kind3, size3, kind4, size4, kind9, size9, kind25, size25, kind89, size89, off89_0, off89_1, off89_2, zero89, List.length_map, encT, *]; with_reducible rfl
             · (with_reducible apply c_impl_termOk) <;> assumption
             · simp only [noSh, noShs, Bool.and_self, *]
             · simp only [aput, Bool.false_eq_true, if_false, if_true, List.getElem?_cons_succ, List.getElem?_cons_zero, rootableA, List.set, List.set_cons_succ, List.set_cons_zero, List.map_cons, List.map_nil, aun, menA, menAs, Bool.or_false, Bool.or_self, beq_self_eq_true, Nat.reduceBEq, reduceIte]; with_reducible rfl)
          | (with_reducible apply al_call (f := 56)
             · first | exact gchk_none rfl | simp only [gchk, graw, List.getElem?_toArray, List.getElem?_cons_succ, List.getElem?_cons_zero, Bool.not_true, Bool.not_false, *]
             · rfl
             · exact Go.Proofs.Try.call56
             · simp only [ast, qv, ard, aconst, arefs, arefss, aview, aviews, atake, atakes, true_or, or_true, or_self, and_self, and_true, true_and, not_false_eq_true, ne_eq, eq_self, aput, Bool.false_eq_true, if_false, if_true, List.getElem?_cons_succ, List.getElem?_cons_zero, rootableA, List.set, List.set_cons_succ, List.set_cons_zero, List.map_cons, List.map_nil, aun, menA, menAs, Bool.or_false, Bool.or_self, beq_self_eq_true, Nat.reduceBEq, reduceIte, binA, unA, convA, intBin, strBin, bndA, minA, maxA, ards, List.toList_toArray, List.getElem?_toArray, reduceCtorEq, aget, agetN, aset, asetR, asetN, asetq, asetc, aclr, rootA, scalarA, hitA, hitAs, List.any_nil, List.any_cons, List.isPrefixOf, List.nil_append, List.cons_append, List.append_nil, List.append_assoc, alen, alens, plA, plAs, fitsA, fieldOk, List.take_zero, List.take_succ_cons, List.take_nil, List.length_cons, List.length_nil, Nat.reduceAdd, Nat.reduceLT, Nat.reduceEqDiff, Nat.reduceBNe, Bool.and_self, Bool.and_true, Bool.true_and, Bool.not_true, Bool.not_false, bne_iff_ne, bne_self_eq_false, Nat.zero_add, Nat.add_zero, Int.toNat_natCast, List.getElem?_map, Option.map_some, List.length_replicate, List.length_map, List.length_set, List.length_append, Bool.or_true, Bool.true_or, beq_self_eq_true, Int.natCast_nonneg, Int.reduceBEq, Int.reduceBNe, Int.reduceLT, Int.reduceLE, Int.reduceGT, Int.reduceGE, Int.reduceAdd, Int.reduceSub, Int.reduceNeg, decide_true, decide_false, Bool.true_and, Bool.false_and, Bool.and_true, Bool.and_false, kind3, size3, kind4, size4, kind9, size9, kind25, size25, kind89, size89, off89_0, off89_1, off89_2, zero89, List.length_map, encT, *]; with_reducible rfl
             · simp only [plAs, plA, Bool.and_self, Bool.and_true, Bool.true_and, *]
             · (with_reducible apply c_impl_takes) <;> assumption
             · simp only [aput, Bool.false_eq_true, if_false, if_true, List.getElem?_cons_succ, List.getElem?_cons_zero, rootableA, List.set, List.set_cons_succ, List.set_cons_zero, List.map_cons, List.map_nil, aun, menA, menAs, Bool.or_false, Bool.or_self, beq_self_eq_true, Nat.reduceBEq, reduceIte]; with_reducible rfl)
          | (with_reducible apply al_snap (f := 56)
             · first | exact gchk_none rfl | simp only [gchk, graw, List.getElem?_toArray, List.getElem?_cons_succ, List.getElem?_cons_zero, Bool.not_true, Bool.not_false, *]
             · rfl
             · exact Go.Proofs.Try.call56
             · simp only [ast, qv, ard, aconst, arefs, arefss, aview, aviews, atake, atakes, true_or, or_true, or_self, and_self, and_true, true_and, not_false_eq_true, ne_eq, eq_self, aput, Bool.false_eq_true, if_false, if_true, List.getElem?_cons_succ, List.getElem?_cons_zero, rootableA, List.set, List.set_cons_succ, List.set_cons_zero, List.map_cons, List.map_nil, aun, menA, menAs, Bool.or_false, Bool.or_self, beq_self_eq_true, Nat.reduceBEq, reduceIte, binA, unA, convA, intBin, strBin, bndA, minA, maxA, ards, List.toList_toArray, List.getElem?_toArray, reduceCtorEq, aget, agetN, aset, asetR, asetN, asetq, asetc, aclr, rootA, scalarA, hitA, hitAs, List.any_nil, List.any_cons, List.isPrefixOf, List.nil_append, List.cons_append, List.append_nil, List.append_assoc, alen, alens, plA, plAs, fitsA, fieldOk, List.take_zero, List.take_succ_cons, List.take_nil, List.length_cons, List.length_nil, Nat.reduceAdd, Nat.reduceLT, Nat.reduceEqDiff, Nat.reduceBNe, Bool.and_self, Bool.and_true, Bool.true_and, Bool.not_true, Bool.not_false, bne_iff_ne, bne_self_eq_false, Nat.zero_add, Nat.add_zero, Int.toNat_natCast, List.getElem?_map, Option.map_some, List.length_replicate, List.length_map, List.length_set, List.length_append, Bool.or_true, Bool.true_or, beq_self_eq_true, Int.natCast_nonneg, Int.reduceBEq, Int.reduceBNe, Int.reduceLT, Int.reduceLE, Int.reduceGT, Int.reduceGE, Int.reduceAdd, Int.reduceSub, Int.reduceNeg, decide_true, decide_false, Bool.true_and, Bool.false_and, Bool.and_true, Bool.and_false, kind3, size3, kind4, size4, kind9, size9, kind25, size25, kind89, size89, off89_0, off89_1, off89_2, zero89, List.length_map, encT, *]; with_reducible rfl
             · simp only [asnap, asnaps, ash, ashs, List.drop_zero, ast, qv, ard, aconst, arefs, arefss, aview, aviews, atake, atakes, true_or, or_true, or_self, and_self, and_true, true_and, not_false_eq_true, ne_eq, eq_self, aput, Bool.false_eq_true, if_false, if_true, List.getElem?_cons_succ, List.getElem?_cons_zero, rootableA, List.set, List.set_cons_succ, List.set_cons_zero, List.map_cons, List.map_nil, aun, menA, menAs, Bool.or_false, Bool.or_self, beq_self_eq_true, Nat.reduceBEq, reduceIte, binA, unA, convA, intBin, strBin, bndA, minA, maxA, ards, List.toList_toArray, List.getElem?_toArray, reduceCtorEq, aget, agetN, aset, asetR, asetN, asetq, asetc, aclr, rootA, scalarA, hitA, hitAs, List.any_nil, List.any_cons, List.isPrefixOf, List.nil_append, List.cons_append, List.append_nil, List.append_assoc, alen, alens, plA, plAs, fitsA, fieldOk, List.take_zero, List.take_succ_cons, List.take_nil, List.length_cons, List.length_nil, Nat.reduceAdd, Nat.reduceLT, Nat.reduceEqDiff, Nat.reduceBNe, Bool.and_self, Bool.and_true, Bool.true_and, Bool.not_true, Bool.not_false, bne_iff_ne, bne_self_eq_false, Nat.zero_add, Nat.add_zero, Int.toNat_natCast, List.getElem?_map, Option.map_some, List.length_replicate, List.length_map, List.length_set, List.length_append, Bool.or_true, Bool.true_or, beq_self_eq_true, Int.natCast_nonneg, Int.reduceBEq, Int.reduceBNe, Int.reduceLT, Int.reduceLE, Int.reduceGT, Int.reduceGE, Int.reduceAdd, Int.reduceSub, Int.reduceNeg, decide_true, decide_false, Bool.true_and, Bool.false_and, Bool.and_true, Bool.and_false, kind3, size3, kind4, size4, kind9, size9, kind25, size25, kind89, size89, off89_0, off89_1, off89_2, zero89, List.length_map, encT, *]; with_reducible rfl
             · (with_reducible apply c_impl_takes) <;> assumption
             · simp only [noSh, noShs, Bool.and_self, *]
             · simp only [aput, Bool.false_eq_true, if_false, if_true, List.getElem?_cons_succ, List.getElem?_cons_zero, rootableA, List.set, List.set_cons_succ, List.set_cons_zero, List.map_cons, List.map_nil, aun, menA, menAs, Bool.or_false, Bool.or_self, beq_self_eq_true, Nat.reduceBEq, reduceIte]; with_reducible rfl)
          | (with_reducible apply al_s hT true
             · first | exact gchk_none rfl | simp only [gchk, graw, List.getElem?_toArray, List.getElem?_cons_succ, List.getElem?_cons_zero, Bool.not_true, Bool.not_false, *]
             · simp only [ast, qv, ard, aconst, arefs, arefss, aview, aviews, atake, atakes, true_or, or_true, or_self, and_self, and_true, true_and, not_false_eq_true, ne_eq, eq_self, aput, Bool.false_eq_true, if_false, if_true, List.getElem?_cons_succ, List.getElem?_cons_zero, rootableA, List.set, List.set_cons_succ, List.set_cons_zero, List.map_cons, List.map_nil, aun, menA, menAs, Bool.or_false, Bool.or_self, beq_self_eq_true, Nat.reduceBEq, reduceIte, binA, unA, convA, intBin, strBin, bndA, minA, maxA, ards, List.toList_toArray, List.getElem?_toArray, reduceCtorEq, aget, agetN, aset, asetR, asetN, asetq, asetc, aclr, rootA, scalarA, hitA, hitAs, List.any_nil, List.any_cons, List.isPrefixOf, List.nil_append, List.cons_append, List.append_nil, List.append_assoc, alen, alens, plA, plAs, fitsA, fieldOk, List.take_zero, List.take_succ_cons, List.take_nil, List.length_cons, List.length_nil, Nat.reduceAdd, Nat.reduceLT, Nat.reduceEqDiff, Nat.reduceBNe, Bool.and_self, Bool.and_true, Bool.true_and, Bool.not_true, Bool.not_false, bne_iff_ne, bne_self_eq_false, Nat.zero_add, Nat.add_zero, Int.toNat_natCast, List.getElem?_map, Option.map_some, List.length_replicate, List.length_map, List.length_set, List.length_append, Bool.or_true, Bool.true_or, beq_self_eq_true, Int.natCast_nonneg, Int.reduceBEq, Int.reduceBNe, Int.reduceLT, Int.reduceLE, Int.reduceGT, Int.reduceGE, Int.reduceAdd, Int.reduceSub, Int.reduceNeg, decide_true, decide_false, Bool.true_and, Bool.false_and, Bool.and_true, Bool.and_false, kind3, size3, kind4, size4, kind9, size9, kind25, size25, kind89, size89, off89_0, off89_1, off89_2, zero89, List.length_map, encT, *]
               first | done | with_reducible rfl)
          | (with_reducible apply al_q hT
             · first | exact gchk_none rfl | simp only [gchk, graw, List.getElem?_toArray, List.getElem?_cons_succ, List.getElem?_cons_zero, Bool.not_true, Bool.not_false, *]
             · simp only [ast, qv, ard, aconst, arefs, arefss, aview, aviews, atake, atakes, true_or, or_true, or_self, and_self, and_true, true_and, not_false_eq_true, ne_eq, eq_self, aput, Bool.false_eq_true, if_false, if_true, List.getElem?_cons_succ, List.getElem?_cons_zero, rootableA, List.set, List.set_cons_succ, List.set_cons_zero, List.map_cons, List.map_nil, aun, menA, menAs, Bool.or_false, Bool.or_self, beq_self_eq_true, Nat.reduceBEq, reduceIte, binA, unA, convA, intBin, strBin, bndA, minA, maxA, ards, List.toList_toArray, List.getElem?_toArray, reduceCtorEq, aget, agetN, aset, asetR, asetN, asetq, asetc, aclr, rootA, scalarA, hitA, hitAs, List.any_nil, List.any_cons, List.isPrefixOf, List.nil_append, List.cons_append, List.append_nil, List.append_assoc, alen, alens, plA, plAs, fitsA, fieldOk, List.take_zero, List.take_succ_cons, List.take_nil, List.length_cons, List.length_nil, Nat.reduceAdd, Nat.reduceLT, Nat.reduceEqDiff, Nat.reduceBNe, Bool.and_self, Bool.and_true, Bool.true_and, Bool.not_true, Bool.not_false, bne_iff_ne, bne_self_eq_false, Nat.zero_add, Nat.add_zero, Int.toNat_natCast, List.getElem?_map, Option.map_some, List.length_replicate, List.length_map, List.length_set, List.length_append, Bool.or_true, Bool.true_or, beq_self_eq_true, Int.natCast_nonneg, Int.reduceBEq, Int.reduceBNe, Int.reduceLT, Int.reduceLE, Int.reduceGT, Int.reduceGE, Int.reduceAdd, Int.reduceSub, Int.reduceNeg, decide_true, decide_false, Bool.true_and, Bool.false_and, Bool.and_true, Bool.and_false, kind3, size3, kind4, size4, kind9, size9, kind25, size25, kind89, size89, off89_0, off89_1, off89_2, zero89, List.length_map, encT, *]
               first | done | with_reducible rfl
             · simp only [aput, Bool.false_eq_true, if_false, if_true, List.getElem?_cons_succ, List.getElem?_cons_zero, rootableA, List.set, List.set_cons_succ, List.set_cons_zero, List.map_cons, List.map_nil, aun, menA, menAs, Bool.or_false, Bool.or_self, beq_self_eq_true, Nat.reduceBEq, reduceIte]; with_reducible rfl)
          | (with_reducible apply al_skip
             · simp only [gchk, graw, List.getElem?_toArray, List.getElem?_cons_succ, List.getElem?_cons_zero, Bool.not_true, Bool.not_false, *]
             · simp only [aput, Bool.false_eq_true, if_false, if_true, List.getElem?_cons_succ, List.getElem?_cons_zero, rootableA, List.set, List.set_cons_succ, List.set_cons_zero, List.map_cons, List.map_nil, aun, menA, menAs, Bool.or_false, Bool.or_self, beq_self_eq_true, Nat.reduceBEq, reduceIte]; with_reducible rfl)
          | (with_reducible apply al_caseT rfl
             · simp only [gchk, graw, List.getElem?_toArray, List.getElem?_cons_succ, List.getElem?_cons_zero, Bool.not_true, Bool.not_false, *]; with_reducible rfl
             · simp only [aput, Bool.false_eq_true, if_false, if_true, List.getElem?_cons_succ, List.getElem?_cons_zero, rootableA, List.set, List.set_cons_succ, List.set_cons_zero, List.map_cons, List.map_nil, aun, menA, menAs, Bool.or_false, Bool.or_self, beq_self_eq_true, Nat.reduceBEq, reduceIte]; with_reducible rfl
             intro h
             try simp only [Bool.not_eq_true', Bool.not_eq_false'] at h
             rotate_left
             intro h
             try simp only [Bool.not_eq_true', Bool.not_eq_false'] at h
             rotate_right
             fail_if_success (with_reducible have hh : true = true := h))
          | (with_reducible apply al_caseF rfl
             · simp only [gchk, graw, List.getElem?_toArray, List.getElem?_cons_succ, List.getElem?_cons_zero, Bool.not_true, Bool.not_false, *]; with_reducible rfl
             · simp only [aput, Bool.false_eq_true, if_false, if_true, List.getElem?_cons_succ, List.getElem?_cons_zero, rootableA, List.set, List.set_cons_succ, List.set_cons_zero, List.map_cons, List.map_nil, aun, menA, menAs, Bool.or_false, Bool.or_self, beq_self_eq_true, Nat.reduceBEq, reduceIte]; with_reducible rfl
             intro h
             try simp only [Bool.not_eq_true', Bool.not_eq_false'] at h
             rotate_left
             intro h
             try simp only [Bool.not_eq_true', Bool.not_eq_false'] at h
             rotate_right
             fail_if_success (with_reducible have hh : false = false := h))
          )
        · (simp only [ares, aresL, ares1, ard, aview, aviews, atake, atakes, List.getElem?_cons_succ, List.getElem?_cons_zero, aget, agetN, rootA, kind3, size3, kind4, size4, kind9, size9, kind25, size25, kind89, size89, off89_0, off89_1, off89_2, zero89, fitsA, reduceCtorEq, if_true, alens, alen, *])
          have hb : filterB f = false := run1_none (i := i + 1) (by rw [htk]; simp_all)
          rw [hb]
        · have h' := of_decide_eq_false h
          refine ⟨f.length - (i + 1), by omega, i + 1, m + (1 - takesI t.op), rfl, by omega, by omega, by omega, by rw [htk]; simp_all, ?_⟩
          simp only [clr, aput, Bool.false_eq_true, if_false, if_true, List.getElem?_cons_succ, List.getElem?_cons_zero, rootableA, List.set, List.set_cons_succ, List.set_cons_zero, List.map_cons, List.map_nil, aun, menA, menAs, Bool.or_false, Bool.or_self, beq_self_eq_true, Nat.reduceBEq, reduceIte, hw]
        · (simp only [ares, aresL, ares1, ard, aview, aviews, atake, atakes, List.getElem?_cons_succ, List.getElem?_cons_zero, aget, agetN, rootA, kind3, size3, kind4, size4, kind9, size9, kind25, size25, kind89, size89, off89_0, off89_1, off89_2, zero89, fitsA, reduceCtorEq, if_true, alens, alen, *])
          have hb : filterB f = false := run1_none (i := i + 1) (by rw [htk]; simp_all)
          rw [hb]
      · have hd : decide ((i : Int) < (f.length : Int)) = false := by simp; omega
        clear ht
        repeat' (first
          | with_reducible refine aw_seq ?_
          | with_reducible refine aw_block ?_
          | with_reducible refine aw_skip ?_
          | with_reducible refine aw_exit ?_
          | with_reducible refine aw_ret ?_
          | with_reducible refine thenA_n ?_
          | with_reducible refine thenA_r ?_
          | with_reducible refine thenA_x ?_
          | with_reducible refine blockA_n ?_
          | with_reducible refine blockA_r ?_
          | with_reducible refine blockA_e ?_
          | with_reducible refine blockA_x (by decide) ?_
          | with_reducible refine ends_r ?_
          | with_reducible refine ends_n ?_
          | with_reducible refine aw_reg ?_
          | (with_reducible refine aw_any hT ?_ ?_
             · decide +kernel)
          | with_reducible refine al_nil ?_
          | (with_reducible apply aw_cond
             · simp only [ard, aview, List.getElem?_cons_succ, List.getElem?_cons_zero, *]; with_reducible rfl
             all_goals (intro h; try simp only [Bool.not_eq_true', Bool.not_eq_false', reduceCtorEq] at h))
          | (with_reducible apply al_call (f := 55)
             · first | exact gchk_none rfl | simp only [gchk, graw, List.getElem?_toArray, List.getElem?_cons_succ, List.getElem?_cons_zero, Bool.not_true, Bool.not_false, *]
             · rfl
             · exact Go.Proofs.Try.call55
             · simp only [ast, qv, ard, aconst, arefs, arefss, aview, aviews, atake, atakes, true_or, or_true, or_self, and_self, and_true, true_and, not_false_eq_true, ne_eq, eq_self, aput, Bool.false_eq_true, if_false, if_true, List.getElem?_cons_succ, List.getElem?_cons_zero, rootableA, List.set, List.set_cons_succ, List.set_cons_zero, List.map_cons, List.map_nil, aun, menA, menAs, Bool.or_false, Bool.or_self, beq_self_eq_true, Nat.reduceBEq, reduceIte, binA, unA, convA, intBin, strBin, bndA, minA, maxA, ards, List.toList_toArray, List.getElem?_toArray, reduceCtorEq, aget, agetN, aset, asetR, asetN, asetq, asetc, aclr, rootA, scalarA, hitA, hitAs, List.any_nil, List.any_cons, List.isPrefixOf, List.nil_append, List.cons_append, List.append_nil, List.append_assoc, alen, alens, plA, plAs, fitsA, fieldOk, List.take_zero, List.take_succ_cons, List.take_nil, List.length_cons, List.length_nil, Nat.reduceAdd, Nat.reduceLT, Nat.reduceEqDiff, Nat.reduceBNe, Bool.and_self, Bool.and_true, Bool.true_and, Bool.not_true, Bool.not_false, bne_iff_ne, bne_self_eq_false, Nat.zero_add, Nat.add_zero, Int.toNat_natCast, List.getElem?_map, Option.map_some, List.length_replicate, List.length_map, List.length_set, List.length_append, Bool.or_true, Bool.true_or, beq_self_eq_true, Int.natCast_nonneg, Int.reduceBEq, Int.reduceBNe, Int.reduceLT, Int.reduceLE, Int.reduceGT, Int.reduceGE, Int.reduceAdd, Int.reduceSub, Int.reduceNeg, decide_true, decide_false, Bool.true_and, Bool.false_and, Bool.and_true, Bool.and_false, kind3, size3, kind4, size4, kind9, size9, kind25, size25, kind89, size89, off89_0, off89_1, off89_2, zero89, List.length_map, encT, *]; with_reducible rfl
             · simp only [plAs, plA, Bool.and_self, Bool.and_true, Bool.true_and, *]
             · (with_reducible apply c_impl_termOk) <;> assumption
             · simp only [aput, Bool.false_eq_true, if_false, if_true, List.getElem?_cons_succ, List.getElem?_cons_zero, rootableA, List.set, List.set_cons_succ, List.set_cons_zero, List.map_cons, List.map_nil, aun, menA, menAs, Bool.or_false, Bool.or_self, beq_self_eq_true, Nat.reduceBEq, reduceIte]; with_reducible rfl)
          | (with_reducible apply al_snap (f := 55)
             · first | exact gchk_none rfl | simp only [gchk, graw, List.getElem?_toArray, List.getElem?_cons_succ, List.getElem?_cons_zero, Bool.not_true, Bool.not_false, *]
             · rfl
             · exact Go.Proofs.Try.call55
             · simp only [ast, qv, ard, aconst, arefs, arefss, aview, aviews, atake, atakes, true_or, or_true, or_self, and_self, and_true, true_and, not_false_eq_true, ne_eq, eq_self, aput, Bool.false_eq_true, if_false, if_true, List.getElem?_cons_succ, List.getElem?_cons_zero, rootableA, List.set, List.set_cons_succ, List.set_cons_zero, List.map_cons, List.map_nil, aun, menA, menAs, Bool.or_false, Bool.or_self, beq_self_eq_true, Nat.reduceBEq, reduceIte, binA, unA, convA, intBin, strBin, bndA, minA, maxA, ards, List.toList_toArray, List.getElem?_toArray, reduceCtorEq, aget, agetN, aset, asetR, asetN, asetq, asetc, aclr, rootA, scalarA, hitA, hitAs, List.any_nil, List.any_cons, List.isPrefixOf, List.nil_append, List.cons_append, List.append_nil, List.append_assoc, alen, alens, plA, plAs, fitsA, fieldOk, List.take_zero, List.take_succ_cons, List.take_nil, List.length_cons, List.length_nil, Nat.reduceAdd, Nat.reduceLT, Nat.reduceEqDiff, Nat.reduceBNe, Bool.and_self, Bool.and_true, Bool.true_and, Bool.not_true, Bool.not_false, bne_iff_ne, bne_self_eq_false, Nat.zero_add, Nat.add_zero, Int.toNat_natCast, List.getElem?_map, Option.map_some, List.length_replicate, List.length_map, List.length_set, List.length_append, Bool.or_true, Bool.true_or, beq_self_eq_true, Int.natCast_nonneg, Int.reduceBEq, Int.reduceBNe, Int.reduceLT, Int.reduceLE, Int.reduceGT, Int.reduceGE, Int.reduceAdd, Int.reduceSub, Int.reduceNeg, decide_true, decide_false, Bool.true_and, Bool.false_and, Bool.and_true, Bool.and_false, kind3, size3, kind4, size4, kind9, size9, kind25, size25, kind89, size89, off89_0, off89_1, off89_2, zero89, List.length_map, encT, *]; with_reducible rfl
             · simp only [asnap, asnaps, ash, ashs, List.drop_zero, ast, qv, ard, aconst, arefs, arefss, aview, aviews, atake, atakes, true_or, or_true, or_self, and_self, and_true, true_and, not_false_eq_true, ne_eq, eq_self, aput, Bool.false_eq_true, if_false, if_true, List.getElem?_cons_succ, List.getElem?_cons_zero, rootableA, List.set, List.set_cons_succ, List.set_cons_zero, List.map_cons, List.map_nil, aun, menA, menAs, Bool.or_false, Bool.or_self, beq_self_eq_true, Nat.reduceBEq, reduceIte, binA, unA, convA, intBin, strBin, bndA, minA, maxA, ards, List.toList_toArray, List.getElem?_toArray, reduceCtorEq, aget, agetN, aset, asetR, asetN, asetq, asetc, aclr, rootA, scalarA, hitA, hitAs, List.any_nil, List.any_cons, List.isPrefixOf, List.nil_append, List.cons_append, List.append_nil, List.append_assoc, alen, alens, plA, plAs, fitsA, fieldOk, List.take_zero, List.take_succ_cons, List.take_nil, List.length_cons, List.length_nil, Nat.reduceAdd, Nat.reduceLT, Nat.reduceEqDiff, Nat.reduceBNe, Bool.and_self, Bool.and_true, Bool.true_and, Bool.not_true, Bool.not_false, bne_iff_ne, bne_self_eq_false, Nat.zero_add, Nat.add_zero, Int.toNat_natCast, List.getElem?_map, Option.map_some, List.length_replicate, List.length_map, List.length_set, List.length_append, Bool.or_true, Bool.true_or, beq_self_eq_true, Int.natCast_nonneg, Int.reduceBEq, Int.reduceBNe, Int.reduceLT, Int.reduceLE, Int.reduceGT, Int.reduceGE, Int.reduceAdd, Int.reduceSub, Int.reduceNeg, decide_true, decide_false, Bool.true_and, Bool.false_and, Bool.and_true, Bool.and_false, kind3, size3, kind4, size4, kind9, size9, kind25, size25, kind89, size89, off89_0, off89_1, off89_2, zero89, List.length_map, encT, *]; with_reducible rfl
             · (with_reducible apply c_impl_termOk) <;> assumption
             · simp only [noSh, noShs, Bool.and_self, *]
             · simp only [aput, Bool.false_eq_true, if_false, if_true, List.getElem?_cons_succ, List.getElem?_cons_zero, rootableA, List.set, List.set_cons_succ, List.set_cons_zero, List.map_cons, List.map_nil, aun, menA, menAs, Bool.or_false, Bool.or_self, beq_self_eq_true, Nat.reduceBEq, reduceIte]; with_reducible rfl)
          | (with_reducible apply al_call (f := 56)
             · first | exact gchk_none rfl | simp only [gchk, graw, List.getElem?_toArray, List.getElem?_cons_succ, List.getElem?_cons_zero, Bool.not_true, Bool.not_false, *]
             · rfl
             · exact Go.Proofs.Try.call56
             · simp only [ast, qv, ard, aconst, arefs, arefss, aview, aviews, atake, atakes, true_or, or_true, or_self, and_self, and_true, true_and, not_false_eq_true, ne_eq, eq_self, aput, Bool.false_eq_true, if_false, if_true, List.getElem?_cons_succ, List.getElem?_cons_zero, rootableA, List.set, List.set_cons_succ, List.set_cons_zero, List.map_cons, List.map_nil, aun, menA, menAs, Bool.or_false, Bool.or_self, beq_self_eq_true, Nat.reduceBEq, reduceIte, binA, unA, convA, intBin, strBin, bndA, minA, maxA, ards, List.toList_toArray, List.getElem?_toArray, reduceCtorEq, aget, agetN, aset, asetR, asetN, asetq, asetc, aclr, rootA, scalarA, hitA, hitAs, List.any_nil, List.any_cons, List.isPrefixOf, List.nil_append, List.cons_append, List.append_nil, List.append_assoc, alen, alens, plA, plAs, fitsA, fieldOk, List.take_zero, List.take_succ_cons, List.take_nil, List.length_cons, List.length_nil, Nat.reduceAdd, Nat.reduceLT, Nat.reduceEqDiff, Nat.reduceBNe, Bool.and_self, Bool.and_true, Bool.true_and, Bool.not_true, Bool.not_false, bne_iff_ne, bne_self_eq_false, Nat.zero_add, Nat.add_zero, Int.toNat_natCast, List.getElem?_map, Option.map_some, List.length_replicate, List.length_map, List.length_set, List.length_append, Bool.or_true, Bool.true_or, beq_self_eq_true, Int.natCast_nonneg, Int.reduceBEq, Int.reduceBNe, Int.reduceLT, Int.reduceLE, Int.reduceGT, Int.reduceGE, Int.reduceAdd, Int.reduceSub, Int.reduceNeg, decide_true, decide_false, Bool.true_and, Bool.false_and, Bool.and_true, Bool.and_false, kind3, size3, kind4, size4, kind9, size9, kind25, size25, kind89, size89, off89_0, off89_1, off89_2, zero89, List.length_map, encT, *]; with_reducible rfl
             · simp only [plAs, plA, Bool.and_self, Bool.and_true, Bool.true_and, *]
             · (with_reducible apply c_impl_takes) <;> assumption
             · simp only [aput, Bool.false_eq_true, if_false, if_true, List.getElem?_cons_succ, List.getElem?_cons_zero, rootableA, List.set, List.set_cons_succ, List.set_cons_zero, List.map_cons, List.map_nil, aun, menA, menAs, Bool.or_false, Bool.or_self, beq_self_eq_true, Nat.reduceBEq, reduceIte]; with_reducible rfl)
          | (with_reducible apply al_snap (f := 56)
             · first | exact gchk_none rfl | simp only [gchk, graw, List.getElem?_toArray, List.getElem?_cons_succ, List.getElem?_cons_zero, Bool.not_true, Bool.not_false, *]
             · rfl
             · exact Go.Proofs.Try.call56
             · simp only [ast, qv, ard, aconst, arefs, arefss, aview, aviews, atake, atakes, true_or, or_true, or_self, and_self, and_true, true_and, not_false_eq_true, ne_eq, eq_self, aput, Bool.false_eq_true, if_false, if_true, List.getElem?_cons_succ, List.getElem?_cons_zero, rootableA, List.set, List.set_cons_succ, List.set_cons_zero, List.map_cons, List.map_nil, aun, menA, menAs, Bool.or_false, Bool.or_self, beq_self_eq_true, Nat.reduceBEq, reduceIte, binA, unA, convA, intBin, strBin, bndA, minA, maxA, ards, List.toList_toArray, List.getElem?_toArray, reduceCtorEq, aget, agetN, aset, asetR, asetN, asetq, asetc, aclr, rootA, scalarA, hitA, hitAs, List.any_nil, List.any_cons, List.isPrefixOf, List.nil_append, List.cons_append, List.append_nil, List.append_assoc, alen, alens, plA, plAs, fitsA, fieldOk, List.take_zero, List.take_succ_cons, List.take_nil, List.length_cons, List.length_nil, Nat.reduceAdd, Nat.reduceLT, Nat.reduceEqDiff, Nat.reduceBNe, Bool.and_self, Bool.and_true, Bool.true_and, Bool.not_true, Bool.not_false, bne_iff_ne, bne_self_eq_false, Nat.zero_add, Nat.add_zero, Int.toNat_natCast, List.getElem?_map, Option.map_some, List.length_replicate, List.length_map, List.length_set, List.length_append, Bool.or_true, Bool.true_or, beq_self_eq_true, Int.natCast_nonneg, Int.reduceBEq, Int.reduceBNe, Int.reduceLT, Int.reduceLE, Int.reduceGT, Int.reduceGE, Int.reduceAdd, Int.reduceSub, Int.reduceNeg, decide_true, decide_false, Bool.true_and, Bool.false_and, Bool.and_true, Bool.and_false, kind3, size3, kind4, size4, kind9, size9, kind25, size25, kind89, size89, off89_0, off89_1, off89_2, zero89, List.length_map, encT, *]; with_reducible rfl
             · simp only [asnap, asnaps, ash, ashs, List.drop_zero, ast, qv, ard, aconst, arefs, arefss, aview, aviews, atake, atakes, true_or, or_true, or_self, and_self, and_true, true_and, not_false_eq_true, ne_eq, eq_self, aput, Bool.false_eq_true, if_false, if_true, List.getElem?_cons_succ, List.getElem?_cons_zero, rootableA, List.set, List.set_cons_succ, List.set_cons_zero, List.map_cons, List.map_nil, aun, menA, menAs, Bool.or_false, Bool.or_self, beq_self_eq_true, Nat.reduceBEq, reduceIte, binA, unA, convA, intBin, strBin, bndA, minA, maxA, ards, List.toList_toArray, List.getElem?_toArray, reduceCtorEq, aget, agetN, aset, asetR, asetN, asetq, asetc, aclr, rootA, scalarA, hitA, hitAs, List.any_nil, List.any_cons, List.isPrefixOf, List.nil_append, List.cons_append, List.append_nil, List.append_assoc, alen, alens, plA, plAs, fitsA, fieldOk, List.take_zero, List.take_succ_cons, List.take_nil, List.length_cons, List.length_nil, Nat.reduceAdd, Nat.reduceLT, Nat.reduceEqDiff, Nat.reduceBNe, Bool.and_self, Bool.and_true, Bool.true_and, Bool.not_true, Bool.not_false, bne_iff_ne, bne_self_eq_false, Nat.zero_add, Nat.add_zero, Int.toNat_natCast, List.getElem?_map, Option.map_some, List.length_replicate, List.length_map, List.length_set, List.length_append, Bool.or_true, Bool.true_or, beq_self_eq_true, Int.natCast_nonneg, Int.reduceBEq, Int.reduceBNe, Int.reduceLT, Int.reduceLE, Int.reduceGT, Int.reduceGE, Int.reduceAdd, Int.reduceSub, Int.reduceNeg, decide_true, decide_false, Bool.true_and, Bool.false_and, Bool.and_true, Bool.and_false, kind3, size3, kind4, size4, kind9, size9, kind25, size25, kind89, size89, off89_0, off89_1, off89_2, zero89, List.length_map, encT, *]; with_reducible rfl
             · (with_reducible apply c_impl_takes) <;> assumption
             · simp only [noSh, noShs, Bool.and_self, *]
             · simp only [aput, Bool.false_eq_true, if_false, if_true, List.getElem?_cons_succ, List.getElem?_cons_zero, rootableA, List.set, List.set_cons_succ, List.set_cons_zero, List.map_cons, List.map_nil, aun, menA, menAs, Bool.or_false, Bool.or_self, beq_self_eq_true, Nat.reduceBEq, reduceIte]; with_reducible rfl)
          | (with_reducible apply al_s hT true
             · first | exact gchk_none rfl | simp only [gchk, graw, List.getElem?_toArray, List.getElem?_cons_succ, List.getElem?_cons_zero, Bool.not_true, Bool.not_false, *]
             · simp only [ast, qv, ard, aconst, arefs, arefss, aview, aviews, atake, atakes, true_or, or_true, or_self, and_self, and_true, true_and, not_false_eq_true, ne_eq, eq_self, aput, Bool.false_eq_true, if_false, if_true, List.getElem?_cons_succ, List.getElem?_cons_zero, rootableA, List.set, List.set_cons_succ, List.set_cons_zero, List.map_cons, List.map_nil, aun, menA, menAs, Bool.or_false, Bool.or_self, beq_self_eq_true, Nat.reduceBEq, reduceIte, binA, unA, convA, intBin, strBin, bndA, minA, maxA, ards, List.toList_toArray, List.getElem?_toArray, reduceCtorEq, aget, agetN, aset, asetR, asetN, asetq, asetc, aclr, rootA, scalarA, hitA, hitAs, List.any_nil, List.any_cons, List.isPrefixOf, List.nil_append, List.cons_append, List.append_nil, List.append_assoc, alen, alens, plA, plAs, fitsA, fieldOk, List.take_zero, List.take_succ_cons, List.take_nil, List.length_cons, List.length_nil, Nat.reduceAdd, Nat.reduceLT, Nat.reduceEqDiff, Nat.reduceBNe, Bool.and_self, Bool.and_true, Bool.true_and, Bool.not_true, Bool.not_false, bne_iff_ne, bne_self_eq_false, Nat.zero_add, Nat.add_zero, Int.toNat_natCast, List.getElem?_map, Option.map_some, List.length_replicate, List.length_map, List.length_set, List.length_append, Bool.or_true, Bool.true_or, beq_self_eq_true, Int.natCast_nonneg, Int.reduceBEq, Int.reduceBNe, Int.reduceLT, Int.reduceLE, Int.reduceGT, Int.reduceGE, Int.reduceAdd, Int.reduceSub, Int.reduceNeg, decide_true, decide_false, Bool.true_and, Bool.false_and, Bool.and_true, Bool.and_false, kind3, size3, kind4, size4, kind9, size9, kind25, size25, kind89, size89, off89_0, off89_1, off89_2, zero89, List.length_map, encT, *]
               first | done | with_reducible rfl)
          | (with_reducible apply al_q hT
             · first | exact gchk_none rfl | simp only [gchk, graw, List.getElem?_toArray, List.getElem?_cons_succ, List.getElem?_cons_zero, Bool.not_true, Bool.not_false, *]
             · simp only [ast, qv, ard, aconst, arefs, arefss, aview, aviews, atake, atakes, true_or, or_true, or_self, and_self, and_true, true_and, not_false_eq_true, ne_eq, eq_self, aput, Bool.false_eq_true, if_false, if_true, List.getElem?_cons_succ, List.getElem?_cons_zero, rootableA, List.set, List.set_cons_succ, List.set_cons_zero, List.map_cons, List.map_nil, aun, menA, menAs, Bool.or_false, Bool.or_self, beq_self_eq_true, Nat.reduceBEq, reduceIte, binA, unA, convA, intBin, strBin, bndA, minA, maxA, ards, List.toList_toArray, List.getElem?_toArray, reduceCtorEq, aget, agetN, aset, asetR, asetN, asetq, asetc, aclr, rootA, scalarA, hitA, hitAs, List.any_nil, List.any_cons, List.isPrefixOf, List.nil_append, List.cons_append, List.append_nil, List.append_assoc, alen, alens, plA, plAs, fitsA, fieldOk, List.take_zero, List.take_succ_cons, List.take_nil, List.length_cons, List.length_nil, Nat.reduceAdd, Nat.reduceLT, Nat.reduceEqDiff, Nat.reduceBNe, Bool.and_self, Bool.and_true, Bool.true_and, Bool.not_true, Bool.not_false, bne_iff_ne, bne_self_eq_false, Nat.zero_add, Nat.add_zero, Int.toNat_natCast, List.getElem?_map, Option.map_some, List.length_replicate, List.length_map, List.length_set, List.length_append, Bool.or_true, Bool.true_or, beq_self_eq_true, Int.natCast_nonneg, Int.reduceBEq, Int.reduceBNe, Int.reduceLT, Int.reduceLE, Int.reduceGT, Int.reduceGE, Int.reduceAdd, Int.reduceSub, Int.reduceNeg, decide_true, decide_false, Bool.true_and, Bool.false_and, Bool.and_true, Bool.and_false, kind3, size3, kind4, size4, kind9, size9, kind25, size25, kind89, size89, off89_0, off89_1, off89_2, zero89, List.length_map, encT, *]
               first | done | with_reducible rfl
             · simp only [aput, Bool.false_eq_true, if_false, if_true, List.getElem?_cons_succ, List.getElem?_cons_zero, rootableA, List.set, List.set_cons_succ, List.set_cons_zero, List.map_cons, List.map_nil, aun, menA, menAs, Bool.or_false, Bool.or_self, beq_self_eq_true, Nat.reduceBEq, reduceIte]; with_reducible rfl)
          | (with_reducible apply al_skip
             · simp only [gchk, graw, List.getElem?_toArray, List.getElem?_cons_succ, List.getElem?_cons_zero, Bool.not_true, Bool.not_false, *]
             · simp only [aput, Bool.false_eq_true, if_false, if_true, List.getElem?_cons_succ, List.getElem?_cons_zero, rootableA, List.set, List.set_cons_succ, List.set_cons_zero, List.map_cons, List.map_nil, aun, menA, menAs, Bool.or_false, Bool.or_self, beq_self_eq_true, Nat.reduceBEq, reduceIte]; with_reducible rfl)
          | (with_reducible apply al_caseT rfl
             · simp only [gchk, graw, List.getElem?_toArray, List.getElem?_cons_succ, List.getElem?_cons_zero, Bool.not_true, Bool.not_false, *]; with_reducible rfl
             · simp only [aput, Bool.false_eq_true, if_false, if_true, List.getElem?_cons_succ, List.getElem?_cons_zero, rootableA, List.set, List.set_cons_succ, List.set_cons_zero, List.map_cons, List.map_nil, aun, menA, menAs, Bool.or_false, Bool.or_self, beq_self_eq_true, Nat.reduceBEq, reduceIte]; with_reducible rfl
             intro h
             try simp only [Bool.not_eq_true', Bool.not_eq_false'] at h
             rotate_left
             intro h
             try simp only [Bool.not_eq_true', Bool.not_eq_false'] at h
             rotate_right
             fail_if_success (with_reducible have hh : true = true := h))
          | (with_reducible apply al_caseF rfl
             · simp only [gchk, graw, List.getElem?_toArray, List.getElem?_cons_succ, List.getElem?_cons_zero, Bool.not_true, Bool.not_false, *]; with_reducible rfl
             · simp only [aput, Bool.false_eq_true, if_false, if_true, List.getElem?_cons_succ, List.getElem?_cons_zero, rootableA, List.set, List.set_cons_succ, List.set_cons_zero, List.map_cons, List.map_nil, aun, menA, menAs, Bool.or_false, Bool.or_self, beq_self_eq_true, Nat.reduceBEq, reduceIte]; with_reducible rfl
             intro h
             try simp only [Bool.not_eq_true', Bool.not_eq_false'] at h
             rotate_left
             intro h
             try simp only [Bool.not_eq_true', Bool.not_eq_false'] at h
             rotate_right
             fail_if_success (with_reducible have hh : false = false := h))
          )
        all_goals (
          (simp only [ares, aresL, ares1, ard, aview, aviews, atake, atakes, List.getElem?_cons_succ, List.getElem?_cons_zero, aget, agetN, rootA, kind3, size3, kind4, size4, kind9, size9, kind25, size25, kind89, size89, off89_0, off89_1, off89_2, zero89, fitsA, reduceCtorEq, if_true, alens, alen, *])
          have hall : run1 f 0 = some m := by rw [← hr, List.take_of_length_le (by omega)]
          simp_all [filterB]
          try (intro hx; omega))

theorem takesS_eq (o n : Int) (s : ByteArray) : takesS o n s = if termB o n s = true then takesI o else -1 := by
  unfold takesS termB takesI
  rcases opCases o with rfl | rfl | rfl | rfl | rfl | rfl | rfl | rfl | rfl | rfl | ⟨h1, h2, h3, h4, h5, h6, h7, h8, h9, h10⟩
  all_goals simp_all [Bool.and_comm]
theorem c_spec_FilterOk {s : Nat} (f : List TermV) (hf : f.length < 4611686018427387904) (ht : ∀ t ∈ f, t.fits) : Sound P 12 [.lst false s (f.map encT)] (.bool (filterB f)) := by
  refine sound_body hT Go.Proofs.Try.func12 rfl ?_
  rw [Go.Proofs.Try.results12, Go.Proofs.Try.ntmps12]
  simp only [frame, List.length_cons, List.length_nil, List.replicate, List.cons_append, List.nil_append, Nat.reduceAdd, Nat.reduceSub]
  repeat' (first
    | with_reducible refine aw_seq ?_
    | with_reducible refine aw_block ?_
    | with_reducible refine aw_skip ?_
    | with_reducible refine aw_exit ?_
    | with_reducible refine aw_ret ?_
    | with_reducible refine thenA_n ?_
    | with_reducible refine thenA_r ?_
    | with_reducible refine thenA_x ?_
    | with_reducible refine blockA_n ?_
    | with_reducible refine blockA_r ?_
    | with_reducible refine blockA_e ?_
    | with_reducible refine blockA_x (by decide) ?_
    | with_reducible refine ends_r ?_
    | with_reducible refine ends_n ?_
    | with_reducible refine aw_reg ?_
    | (with_reducible refine aw_any hT ?_ ?_
       · decide +kernel)
    | with_reducible refine al_nil ?_
    | (with_reducible apply aw_cond
       · simp only [ard, aview, List.getElem?_cons_succ, List.getElem?_cons_zero, *]; with_reducible rfl
       all_goals (intro h; try simp only [Bool.not_eq_true', Bool.not_eq_false', reduceCtorEq] at h))
    | (with_reducible apply al_call (f := 53)
       · first | exact gchk_none rfl | simp only [gchk, graw, List.getElem?_toArray, List.getElem?_cons_succ, List.getElem?_cons_zero, Bool.not_true, Bool.not_false, *]
       · rfl
       · exact Go.Proofs.Try.call53
       · simp only [ast, qv, ard, aconst, arefs, arefss, aview, aviews, atake, atakes, true_or, or_true, or_self, and_self, and_true, true_and, not_false_eq_true, ne_eq, eq_self, aput, Bool.false_eq_true, if_false, if_true, List.getElem?_cons_succ, List.getElem?_cons_zero, rootableA, List.set, List.set_cons_succ, List.set_cons_zero, List.map_cons, List.map_nil, aun, menA, menAs, Bool.or_false, Bool.or_self, beq_self_eq_true, Nat.reduceBEq, reduceIte, binA, unA, convA, intBin, strBin, bndA, minA, maxA, ards, List.toList_toArray, List.getElem?_toArray, reduceCtorEq, aget, agetN, aset, asetR, asetN, asetq, asetc, aclr, rootA, scalarA, hitA, hitAs, List.any_nil, List.any_cons, List.isPrefixOf, List.nil_append, List.cons_append, List.append_nil, List.append_assoc, alen, alens, plA, plAs, fitsA, fieldOk, List.take_zero, List.take_succ_cons, List.take_nil, List.length_cons, List.length_nil, Nat.reduceAdd, Nat.reduceLT, Nat.reduceEqDiff, Nat.reduceBNe, Bool.and_self, Bool.and_true, Bool.true_and, Bool.not_true, Bool.not_false, bne_iff_ne, bne_self_eq_false, Nat.zero_add, Nat.add_zero, Int.toNat_natCast, List.getElem?_map, Option.map_some, List.length_replicate, List.length_map, List.length_set, List.length_append, Bool.or_true, Bool.true_or, beq_self_eq_true, Int.natCast_nonneg, Int.reduceBEq, Int.reduceBNe, Int.reduceLT, Int.reduceLE, Int.reduceGT, Int.reduceGE, Int.reduceAdd, Int.reduceSub, Int.reduceNeg, decide_true, decide_false, Bool.true_and, Bool.false_and, Bool.and_true, Bool.and_false, kind3, size3, kind9, size9, kind25, size25, kind89, size89, off89_0, off89_1, off89_2, List.length_map, *]; with_reducible rfl
       · simp only [plAs, plA, Bool.and_self, Bool.and_true, Bool.true_and, *]
       · (with_reducible apply c_spec_l8Takes) <;> assumption
       · simp only [aput, Bool.false_eq_true, if_false, if_true, List.getElem?_cons_succ, List.getElem?_cons_zero, rootableA, List.set, List.set_cons_succ, List.set_cons_zero, List.map_cons, List.map_nil, aun, menA, menAs, Bool.or_false, Bool.or_self, beq_self_eq_true, Nat.reduceBEq, reduceIte]; with_reducible rfl)
    | (with_reducible apply al_snap (f := 53)
       · first | exact gchk_none rfl | simp only [gchk, graw, List.getElem?_toArray, List.getElem?_cons_succ, List.getElem?_cons_zero, Bool.not_true, Bool.not_false, *]
       · rfl
       · exact Go.Proofs.Try.call53
       · simp only [ast, qv, ard, aconst, arefs, arefss, aview, aviews, atake, atakes, true_or, or_true, or_self, and_self, and_true, true_and, not_false_eq_true, ne_eq, eq_self, aput, Bool.false_eq_true, if_false, if_true, List.getElem?_cons_succ, List.getElem?_cons_zero, rootableA, List.set, List.set_cons_succ, List.set_cons_zero, List.map_cons, List.map_nil, aun, menA, menAs, Bool.or_false, Bool.or_self, beq_self_eq_true, Nat.reduceBEq, reduceIte, binA, unA, convA, intBin, strBin, bndA, minA, maxA, ards, List.toList_toArray, List.getElem?_toArray, reduceCtorEq, aget, agetN, aset, asetR, asetN, asetq, asetc, aclr, rootA, scalarA, hitA, hitAs, List.any_nil, List.any_cons, List.isPrefixOf, List.nil_append, List.cons_append, List.append_nil, List.append_assoc, alen, alens, plA, plAs, fitsA, fieldOk, List.take_zero, List.take_succ_cons, List.take_nil, List.length_cons, List.length_nil, Nat.reduceAdd, Nat.reduceLT, Nat.reduceEqDiff, Nat.reduceBNe, Bool.and_self, Bool.and_true, Bool.true_and, Bool.not_true, Bool.not_false, bne_iff_ne, bne_self_eq_false, Nat.zero_add, Nat.add_zero, Int.toNat_natCast, List.getElem?_map, Option.map_some, List.length_replicate, List.length_map, List.length_set, List.length_append, Bool.or_true, Bool.true_or, beq_self_eq_true, Int.natCast_nonneg, Int.reduceBEq, Int.reduceBNe, Int.reduceLT, Int.reduceLE, Int.reduceGT, Int.reduceGE, Int.reduceAdd, Int.reduceSub, Int.reduceNeg, decide_true, decide_false, Bool.true_and, Bool.false_and, Bool.and_true, Bool.and_false, kind3, size3, kind9, size9, kind25, size25, kind89, size89, off89_0, off89_1, off89_2, List.length_map, *]; with_reducible rfl
       · simp only [asnap, asnaps, ash, ashs, List.drop_zero, ast, qv, ard, aconst, arefs, arefss, aview, aviews, atake, atakes, true_or, or_true, or_self, and_self, and_true, true_and, not_false_eq_true, ne_eq, eq_self, aput, Bool.false_eq_true, if_false, if_true, List.getElem?_cons_succ, List.getElem?_cons_zero, rootableA, List.set, List.set_cons_succ, List.set_cons_zero, List.map_cons, List.map_nil, aun, menA, menAs, Bool.or_false, Bool.or_self, beq_self_eq_true, Nat.reduceBEq, reduceIte, binA, unA, convA, intBin, strBin, bndA, minA, maxA, ards, List.toList_toArray, List.getElem?_toArray, reduceCtorEq, aget, agetN, aset, asetR, asetN, asetq, asetc, aclr, rootA, scalarA, hitA, hitAs, List.any_nil, List.any_cons, List.isPrefixOf, List.nil_append, List.cons_append, List.append_nil, List.append_assoc, alen, alens, plA, plAs, fitsA, fieldOk, List.take_zero, List.take_succ_cons, List.take_nil, List.length_cons, List.length_nil, Nat.reduceAdd, Nat.reduceLT, Nat.reduceEqDiff, Nat.reduceBNe, Bool.and_self, Bool.and_true, Bool.true_and, Bool.not_true, Bool.not_false, bne_iff_ne, bne_self_eq_false, Nat.zero_add, Nat.add_zero, Int.toNat_natCast, List.getElem?_map, Option.map_some, List.length_replicate, List.length_map, List.length_set, List.length_append, Bool.or_true, Bool.true_or, beq_self_eq_true, Int.natCast_nonneg, Int.reduceBEq, Int.reduceBNe, Int.reduceLT, Int.reduceLE, Int.reduceGT, Int.reduceGE, Int.reduceAdd, Int.reduceSub, Int.reduceNeg, decide_true, decide_false, Bool.true_and, Bool.false_and, Bool.and_true, Bool.and_false, kind3, size3, kind9, size9, kind25, size25, kind89, size89, off89_0, off89_1, off89_2, List.length_map, *]; with_reducible rfl
       · (with_reducible apply c_spec_l8Takes) <;> assumption
       · simp only [noSh, noShs, Bool.and_self, *]
       · simp only [aput, Bool.false_eq_true, if_false, if_true, List.getElem?_cons_succ, List.getElem?_cons_zero, rootableA, List.set, List.set_cons_succ, List.set_cons_zero, List.map_cons, List.map_nil, aun, menA, menAs, Bool.or_false, Bool.or_self, beq_self_eq_true, Nat.reduceBEq, reduceIte]; with_reducible rfl)
    | (with_reducible apply al_s hT true
       · first | exact gchk_none rfl | simp only [gchk, graw, List.getElem?_toArray, List.getElem?_cons_succ, List.getElem?_cons_zero, Bool.not_true, Bool.not_false, *]
       · simp only [ast, qv, ard, aconst, arefs, arefss, aview, aviews, atake, atakes, true_or, or_true, or_self, and_self, and_true, true_and, not_false_eq_true, ne_eq, eq_self, aput, Bool.false_eq_true, if_false, if_true, List.getElem?_cons_succ, List.getElem?_cons_zero, rootableA, List.set, List.set_cons_succ, List.set_cons_zero, List.map_cons, List.map_nil, aun, menA, menAs, Bool.or_false, Bool.or_self, beq_self_eq_true, Nat.reduceBEq, reduceIte, binA, unA, convA, intBin, strBin, bndA, minA, maxA, ards, List.toList_toArray, List.getElem?_toArray, reduceCtorEq, aget, agetN, aset, asetR, asetN, asetq, asetc, aclr, rootA, scalarA, hitA, hitAs, List.any_nil, List.any_cons, List.isPrefixOf, List.nil_append, List.cons_append, List.append_nil, List.append_assoc, alen, alens, plA, plAs, fitsA, fieldOk, List.take_zero, List.take_succ_cons, List.take_nil, List.length_cons, List.length_nil, Nat.reduceAdd, Nat.reduceLT, Nat.reduceEqDiff, Nat.reduceBNe, Bool.and_self, Bool.and_true, Bool.true_and, Bool.not_true, Bool.not_false, bne_iff_ne, bne_self_eq_false, Nat.zero_add, Nat.add_zero, Int.toNat_natCast, List.getElem?_map, Option.map_some, List.length_replicate, List.length_map, List.length_set, List.length_append, Bool.or_true, Bool.true_or, beq_self_eq_true, Int.natCast_nonneg, Int.reduceBEq, Int.reduceBNe, Int.reduceLT, Int.reduceLE, Int.reduceGT, Int.reduceGE, Int.reduceAdd, Int.reduceSub, Int.reduceNeg, decide_true, decide_false, Bool.true_and, Bool.false_and, Bool.and_true, Bool.and_false, kind3, size3, kind9, size9, kind25, size25, kind89, size89, off89_0, off89_1, off89_2, List.length_map, *]
         first | done | with_reducible rfl)
    | (with_reducible apply al_q hT
       · first | exact gchk_none rfl | simp only [gchk, graw, List.getElem?_toArray, List.getElem?_cons_succ, List.getElem?_cons_zero, Bool.not_true, Bool.not_false, *]
       · simp only [ast, qv, ard, aconst, arefs, arefss, aview, aviews, atake, atakes, true_or, or_true, or_self, and_self, and_true, true_and, not_false_eq_true, ne_eq, eq_self, aput, Bool.false_eq_true, if_false, if_true, List.getElem?_cons_succ, List.getElem?_cons_zero, rootableA, List.set, List.set_cons_succ, List.set_cons_zero, List.map_cons, List.map_nil, aun, menA, menAs, Bool.or_false, Bool.or_self, beq_self_eq_true, Nat.reduceBEq, reduceIte, binA, unA, convA, intBin, strBin, bndA, minA, maxA, ards, List.toList_toArray, List.getElem?_toArray, reduceCtorEq, aget, agetN, aset, asetR, asetN, asetq, asetc, aclr, rootA, scalarA, hitA, hitAs, List.any_nil, List.any_cons, List.isPrefixOf, List.nil_append, List.cons_append, List.append_nil, List.append_assoc, alen, alens, plA, plAs, fitsA, fieldOk, List.take_zero, List.take_succ_cons, List.take_nil, List.length_cons, List.length_nil, Nat.reduceAdd, Nat.reduceLT, Nat.reduceEqDiff, Nat.reduceBNe, Bool.and_self, Bool.and_true, Bool.true_and, Bool.not_true, Bool.not_false, bne_iff_ne, bne_self_eq_false, Nat.zero_add, Nat.add_zero, Int.toNat_natCast, List.getElem?_map, Option.map_some, List.length_replicate, List.length_map, List.length_set, List.length_append, Bool.or_true, Bool.true_or, beq_self_eq_true, Int.natCast_nonneg, Int.reduceBEq, Int.reduceBNe, Int.reduceLT, Int.reduceLE, Int.reduceGT, Int.reduceGE, Int.reduceAdd, Int.reduceSub, Int.reduceNeg, decide_true, decide_false, Bool.true_and, Bool.false_and, Bool.and_true, Bool.and_false, kind3, size3, kind9, size9, kind25, size25, kind89, size89, off89_0, off89_1, off89_2, List.length_map, *]
         first | done | with_reducible rfl
       · simp only [aput, Bool.false_eq_true, if_false, if_true, List.getElem?_cons_succ, List.getElem?_cons_zero, rootableA, List.set, List.set_cons_succ, List.set_cons_zero, List.map_cons, List.map_nil, aun, menA, menAs, Bool.or_false, Bool.or_self, beq_self_eq_true, Nat.reduceBEq, reduceIte]; with_reducible rfl)
    | (with_reducible apply al_skip
       · simp only [gchk, graw, List.getElem?_toArray, List.getElem?_cons_succ, List.getElem?_cons_zero, Bool.not_true, Bool.not_false, *]
       · simp only [aput, Bool.false_eq_true, if_false, if_true, List.getElem?_cons_succ, List.getElem?_cons_zero, rootableA, List.set, List.set_cons_succ, List.set_cons_zero, List.map_cons, List.map_nil, aun, menA, menAs, Bool.or_false, Bool.or_self, beq_self_eq_true, Nat.reduceBEq, reduceIte]; with_reducible rfl)
    | (with_reducible apply al_caseT rfl
       · simp only [gchk, graw, List.getElem?_toArray, List.getElem?_cons_succ, List.getElem?_cons_zero, Bool.not_true, Bool.not_false, *]; with_reducible rfl
       · simp only [aput, Bool.false_eq_true, if_false, if_true, List.getElem?_cons_succ, List.getElem?_cons_zero, rootableA, List.set, List.set_cons_succ, List.set_cons_zero, List.map_cons, List.map_nil, aun, menA, menAs, Bool.or_false, Bool.or_self, beq_self_eq_true, Nat.reduceBEq, reduceIte]; with_reducible rfl
       intro h
       try simp only [Bool.not_eq_true', Bool.not_eq_false'] at h
       rotate_left
       intro h
       try simp only [Bool.not_eq_true', Bool.not_eq_false'] at h
       rotate_right
       fail_if_success (with_reducible have hh : true = true := h))
    | (with_reducible apply al_caseF rfl
       · simp only [gchk, graw, List.getElem?_toArray, List.getElem?_cons_succ, List.getElem?_cons_zero, Bool.not_true, Bool.not_false, *]; with_reducible rfl
       · simp only [aput, Bool.false_eq_true, if_false, if_true, List.getElem?_cons_succ, List.getElem?_cons_zero, rootableA, List.set, List.set_cons_succ, List.set_cons_zero, List.map_cons, List.map_nil, aun, menA, menAs, Bool.or_false, Bool.or_self, beq_self_eq_true, Nat.reduceBEq, reduceIte]; with_reducible rfl
       intro h
       try simp only [Bool.not_eq_true', Bool.not_eq_false'] at h
       rotate_left
       intro h
       try simp only [Bool.not_eq_true', Bool.not_eq_false'] at h
       rotate_right
       fail_if_success (with_reducible have hh : false = false := h))
    )
  · (simp only [ares, aresL, ares1, ard, aview, aviews, atake, atakes, List.getElem?_cons_succ, List.getElem?_cons_zero, aget, agetN, rootA, kind3, size3, kind9, size9, kind25, size25, kind89, size89, off89_0, off89_1, off89_2, fitsA, reduceCtorEq, if_true, alens, alen, *])
    have h' := of_decide_eq_true h
    have hb : filterB f = false := by
      unfold filterB
      split
      · have hd : decide ((f.length : Int) ≤ 12) = false := by simp; omega
        rw [hd]; rfl
      · rfl
    rw [hb]
  · have h0 := of_decide_eq_false h
    clear h
    refine aw_loop [1, 5, 6, 7, 8, 9, 10, 11, 12, 13, 14, 15, 16, 17, 18, 19, 20, 21, 22, 23, 24, 25, 26, 27, 28, 29, 30, 31, 32, 33, 34, 35, 36, 37] (fun n S => ∃ (i : Nat) (m : Int), n = f.length - i ∧ i ≤ f.length ∧ 0 ≤ m ∧ m ≤ i ∧ run1 (f.take i) 0 = some m ∧ S = [.lst false s (f.map encT), .undef, .bool false, .int .i64 m, .int .i64 i, .undef, .undef, .undef, .undef, .undef, .undef, .undef, .undef, .undef, .undef, .undef, .undef, .undef, .undef, .undef, .undef, .undef, .undef, .undef, .undef, .undef, .undef, .undef, .undef, .undef, .undef, .undef, .undef, .undef, .undef, .undef, .undef, .undef]) f.length ?_ ?_
    · refine ⟨0, 0, by simp, by omega, by omega, by omega, by simp [run1], ?_⟩
      simp only [clr, aput, Bool.false_eq_true, if_false, if_true, List.getElem?_cons_succ, List.getElem?_cons_zero, rootableA, List.set, List.set_cons_succ, List.set_cons_zero, List.map_cons, List.map_nil, aun, menA, menAs, Bool.or_false, Bool.or_self, beq_self_eq_true, Nat.reduceBEq, reduceIte]
      rfl
    · rintro n S ⟨i, m, hn, hi, hm0, hmi, hr, rfl⟩
      have hw : IntKind.i64.wrap ((i : Int) + 1) = ((i + 1 : Nat) : Int) := by rw [wrap_small] <;> omega
      by_cases hlt : i < f.length
      · have hd : decide ((i : Int) < (f.length : Int)) = true := by simp [hlt]
        obtain ⟨t, hti⟩ : ∃ t, f[i]? = some t := ⟨f[i], by simp [hlt]⟩
        have hfit : t.text.size < 4611686018427387904 := ht t (List.mem_of_getElem? hti)
        have htk := run1_take hti 0
        rw [hr] at htk
        simp only [step1] at htk
        clear ht
        obtain ⟨hk0, hk2⟩ := takesI_le t.op
        have hw1 : IntKind.i64.wrap (m - takesI t.op) = m - takesI t.op := by rw [wrap_small] <;> omega
        have hw2 : IntKind.i64.wrap (m - takesI t.op + 1) = m - takesI t.op + 1 := by rw [wrap_small] <;> omega
        have hk3 : decide (takesI t.op < 0) = false := by simp; omega
        have hs := takesS_eq t.op t.num t.text
        cases hb : termB t.op t.num t.text with
        | false =>
          rw [hb] at hs htk
          simp only [Bool.false_eq_true, if_false, false_and] at hs htk
          repeat' (first
            | with_reducible refine aw_seq ?_
            | with_reducible refine aw_block ?_
            | with_reducible refine aw_skip ?_
            | with_reducible refine aw_exit ?_
            | with_reducible refine aw_ret ?_
            | with_reducible refine thenA_n ?_
            | with_reducible refine thenA_r ?_
            | with_reducible refine thenA_x ?_
            | with_reducible refine blockA_n ?_
            | with_reducible refine blockA_r ?_
            | with_reducible refine blockA_e ?_
            | with_reducible refine blockA_x (by decide) ?_
            | with_reducible refine ends_r ?_
            | with_reducible refine ends_n ?_
            | with_reducible refine aw_reg ?_
            | (with_reducible refine aw_any hT ?_ ?_
               · decide +kernel)
            | with_reducible refine al_nil ?_
            | (with_reducible apply aw_cond
               · simp only [ard, aview, List.getElem?_cons_succ, List.getElem?_cons_zero, *]; with_reducible rfl
               all_goals (intro h; try simp only [Bool.not_eq_true', Bool.not_eq_false', reduceCtorEq] at h))
            | (with_reducible apply al_call (f := 53)
               · first | exact gchk_none rfl | simp only [gchk, graw, List.getElem?_toArray, List.getElem?_cons_succ, List.getElem?_cons_zero, Bool.not_true, Bool.not_false, *]
               · rfl
               · exact Go.Proofs.Try.call53
               · simp only [ast, qv, ard, aconst, arefs, arefss, aview, aviews, atake, atakes, true_or, or_true, or_self, and_self, and_true, true_and, not_false_eq_true, ne_eq, eq_self, aput, Bool.false_eq_true, if_false, if_true, List.getElem?_cons_succ, List.getElem?_cons_zero, rootableA, List.set, List.set_cons_succ, List.set_cons_zero, List.map_cons, List.map_nil, aun, menA, menAs, Bool.or_false, Bool.or_self, beq_self_eq_true, Nat.reduceBEq, reduceIte, binA, unA, convA, intBin, strBin, bndA, minA, maxA, ards, List.toList_toArray, List.getElem?_toArray, reduceCtorEq, aget, agetN, aset, asetR, asetN, asetq, asetc, aclr, rootA, scalarA, hitA, hitAs, List.any_nil, List.any_cons, List.isPrefixOf, List.nil_append, List.cons_append, List.append_nil, List.append_assoc, alen, alens, plA, plAs, fitsA, fieldOk, List.take_zero, List.take_succ_cons, List.take_nil, List.length_cons, List.length_nil, Nat.reduceAdd, Nat.reduceLT, Nat.reduceEqDiff, Nat.reduceBNe, Bool.and_self, Bool.and_true, Bool.true_and, Bool.not_true, Bool.not_false, bne_iff_ne, bne_self_eq_false, Nat.zero_add, Nat.add_zero, Int.toNat_natCast, List.getElem?_map, Option.map_some, List.length_replicate, List.length_map, List.length_set, List.length_append, Bool.or_true, Bool.true_or, beq_self_eq_true, Int.natCast_nonneg, Int.reduceBEq, Int.reduceBNe, Int.reduceLT, Int.reduceLE, Int.reduceGT, Int.reduceGE, Int.reduceAdd, Int.reduceSub, Int.reduceNeg, decide_true, decide_false, Bool.true_and, Bool.false_and, Bool.and_true, Bool.and_false, kind3, size3, kind9, size9, kind25, size25, kind89, size89, off89_0, off89_1, off89_2, List.length_map, encT, *]; with_reducible rfl
               · simp only [plAs, plA, Bool.and_self, Bool.and_true, Bool.true_and, *]
               · (with_reducible apply c_spec_l8Takes) <;> assumption
               · simp only [aput, Bool.false_eq_true, if_false, if_true, List.getElem?_cons_succ, List.getElem?_cons_zero, rootableA, List.set, List.set_cons_succ, List.set_cons_zero, List.map_cons, List.map_nil, aun, menA, menAs, Bool.or_false, Bool.or_self, beq_self_eq_true, Nat.reduceBEq, reduceIte]; with_reducible rfl)
            | (with_reducible apply al_snap (f := 53)
               · first | exact gchk_none rfl | simp only [gchk, graw, List.getElem?_toArray, List.getElem?_cons_succ, List.getElem?_cons_zero, Bool.not_true, Bool.not_false, *]
               · rfl
               · exact Go.Proofs.Try.call53
               · simp only [ast, qv, ard, aconst, arefs, arefss, aview, aviews, atake, atakes, true_or, or_true, or_self, and_self, and_true, true_and, not_false_eq_true, ne_eq, eq_self, aput, Bool.false_eq_true, if_false, if_true, List.getElem?_cons_succ, List.getElem?_cons_zero, rootableA, List.set, List.set_cons_succ, List.set_cons_zero, List.map_cons, List.map_nil, aun, menA, menAs, Bool.or_false, Bool.or_self, beq_self_eq_true, Nat.reduceBEq, reduceIte, binA, unA, convA, intBin, strBin, bndA, minA, maxA, ards, List.toList_toArray, List.getElem?_toArray, reduceCtorEq, aget, agetN, aset, asetR, asetN, asetq, asetc, aclr, rootA, scalarA, hitA, hitAs, List.any_nil, List.any_cons, List.isPrefixOf, List.nil_append, List.cons_append, List.append_nil, List.append_assoc, alen, alens, plA, plAs, fitsA, fieldOk, List.take_zero, List.take_succ_cons, List.take_nil, List.length_cons, List.length_nil, Nat.reduceAdd, Nat.reduceLT, Nat.reduceEqDiff, Nat.reduceBNe, Bool.and_self, Bool.and_true, Bool.true_and, Bool.not_true, Bool.not_false, bne_iff_ne, bne_self_eq_false, Nat.zero_add, Nat.add_zero, Int.toNat_natCast, List.getElem?_map, Option.map_some, List.length_replicate, List.length_map, List.length_set, List.length_append, Bool.or_true, Bool.true_or, beq_self_eq_true, Int.natCast_nonneg, Int.reduceBEq, Int.reduceBNe, Int.reduceLT, Int.reduceLE, Int.reduceGT, Int.reduceGE, Int.reduceAdd, Int.reduceSub, Int.reduceNeg, decide_true, decide_false, Bool.true_and, Bool.false_and, Bool.and_true, Bool.and_false, kind3, size3, kind9, size9, kind25, size25, kind89, size89, off89_0, off89_1, off89_2, List.length_map, encT, *]; with_reducible rfl
               · simp only [asnap, asnaps, ash, ashs, List.drop_zero, ast, qv, ard, aconst, arefs, arefss, aview, aviews, atake, atakes, true_or, or_true, or_self, and_self, and_true, true_and, not_false_eq_true, ne_eq, eq_self, aput, Bool.false_eq_true, if_false, if_true, List.getElem?_cons_succ, List.getElem?_cons_zero, rootableA, List.set, List.set_cons_succ, List.set_cons_zero, List.map_cons, List.map_nil, aun, menA, menAs, Bool.or_false, Bool.or_self, beq_self_eq_true, Nat.reduceBEq, reduceIte, binA, unA, convA, intBin, strBin, bndA, minA, maxA, ards, List.toList_toArray, List.getElem?_toArray, reduceCtorEq, aget, agetN, aset, asetR, asetN, asetq, asetc, aclr, rootA, scalarA, hitA, hitAs, List.any_nil, List.any_cons, List.isPrefixOf, List.nil_append, List.cons_append, List.append_nil, List.append_assoc, alen, alens, plA, plAs, fitsA, fieldOk, List.take_zero, List.take_succ_cons, List.take_nil, List.length_cons, List.length_nil, Nat.reduceAdd, Nat.reduceLT, Nat.reduceEqDiff, Nat.reduceBNe, Bool.and_self, Bool.and_true, Bool.true_and, Bool.not_true, Bool.not_false, bne_iff_ne, bne_self_eq_false, Nat.zero_add, Nat.add_zero, Int.toNat_natCast, List.getElem?_map, Option.map_some, List.length_replicate, List.length_map, List.length_set, List.length_append, Bool.or_true, Bool.true_or, beq_self_eq_true, Int.natCast_nonneg, Int.reduceBEq, Int.reduceBNe, Int.reduceLT, Int.reduceLE, Int.reduceGT, Int.reduceGE, Int.reduceAdd, Int.reduceSub, Int.reduceNeg, decide_true, decide_false, Bool.true_and, Bool.false_and, Bool.and_true, Bool.and_false, kind3, size3, kind9, size9, kind25, size25, kind89, size89, off89_0, off89_1, off89_2, List.length_map, encT, *]; with_reducible rfl
               · (with_reducible apply c_spec_l8Takes) <;> assumption
               · simp only [noSh, noShs, Bool.and_self, *]
               · simp only [aput, Bool.false_eq_true, if_false, if_true, List.getElem?_cons_succ, List.getElem?_cons_zero, rootableA, List.set, List.set_cons_succ, List.set_cons_zero, List.map_cons, List.map_nil, aun, menA, menAs, Bool.or_false, Bool.or_self, beq_self_eq_true, Nat.reduceBEq, reduceIte]; with_reducible rfl)
            | (with_reducible apply al_s hT true
               · first | exact gchk_none rfl | simp only [gchk, graw, List.getElem?_toArray, List.getElem?_cons_succ, List.getElem?_cons_zero, Bool.not_true, Bool.not_false, *]
               · simp only [ast, qv, ard, aconst, arefs, arefss, aview, aviews, atake, atakes, true_or, or_true, or_self, and_self, and_true, true_and, not_false_eq_true, ne_eq, eq_self, aput, Bool.false_eq_true, if_false, if_true, List.getElem?_cons_succ, List.getElem?_cons_zero, rootableA, List.set, List.set_cons_succ, List.set_cons_zero, List.map_cons, List.map_nil, aun, menA, menAs, Bool.or_false, Bool.or_self, beq_self_eq_true, Nat.reduceBEq, reduceIte, binA, unA, convA, intBin, strBin, bndA, minA, maxA, ards, List.toList_toArray, List.getElem?_toArray, reduceCtorEq, aget, agetN, aset, asetR, asetN, asetq, asetc, aclr, rootA, scalarA, hitA, hitAs, List.any_nil, List.any_cons, List.isPrefixOf, List.nil_append, List.cons_append, List.append_nil, List.append_assoc, alen, alens, plA, plAs, fitsA, fieldOk, List.take_zero, List.take_succ_cons, List.take_nil, List.length_cons, List.length_nil, Nat.reduceAdd, Nat.reduceLT, Nat.reduceEqDiff, Nat.reduceBNe, Bool.and_self, Bool.and_true, Bool.true_and, Bool.not_true, Bool.not_false, bne_iff_ne, bne_self_eq_false, Nat.zero_add, Nat.add_zero, Int.toNat_natCast, List.getElem?_map, Option.map_some, List.length_replicate, List.length_map, List.length_set, List.length_append, Bool.or_true, Bool.true_or, beq_self_eq_true, Int.natCast_nonneg, Int.reduceBEq, Int.reduceBNe, Int.reduceLT, Int.reduceLE, Int.reduceGT, Int.reduceGE, Int.reduceAdd, Int.reduceSub, Int.reduceNeg, decide_true, decide_false, Bool.true_and, Bool.false_and, Bool.and_true, Bool.and_false, kind3, size3, kind9, size9, kind25, size25, kind89, size89, off89_0, off89_1, off89_2, List.length_map, encT, *]
                 first | done | with_reducible rfl)
            | (with_reducible apply al_q hT
               · first | exact gchk_none rfl | simp only [gchk, graw, List.getElem?_toArray, List.getElem?_cons_succ, List.getElem?_cons_zero, Bool.not_true, Bool.not_false, *]
               · simp only [ast, qv, ard, aconst, arefs, arefss, aview, aviews, atake, atakes, true_or, or_true, or_self, and_self, and_true, true_and, not_false_eq_true, ne_eq, eq_self, aput, Bool.false_eq_true, if_false, if_true, List.getElem?_cons_succ, List.getElem?_cons_zero, rootableA, List.set, List.set_cons_succ, List.set_cons_zero, List.map_cons, List.map_nil, aun, menA, menAs, Bool.or_false, Bool.or_self, beq_self_eq_true, Nat.reduceBEq, reduceIte, binA, unA, convA, intBin, strBin, bndA, minA, maxA, ards, List.toList_toArray, List.getElem?_toArray, reduceCtorEq, aget, agetN, aset, asetR, asetN, asetq, asetc, aclr, rootA, scalarA, hitA, hitAs, List.any_nil, List.any_cons, List.isPrefixOf, List.nil_append, List.cons_append, List.append_nil, List.append_assoc, alen, alens, plA, plAs, fitsA, fieldOk, List.take_zero, List.take_succ_cons, List.take_nil, List.length_cons, List.length_nil, Nat.reduceAdd, Nat.reduceLT, Nat.reduceEqDiff, Nat.reduceBNe, Bool.and_self, Bool.and_true, Bool.true_and, Bool.not_true, Bool.not_false, bne_iff_ne, bne_self_eq_false, Nat.zero_add, Nat.add_zero, Int.toNat_natCast, List.getElem?_map, Option.map_some, List.length_replicate, List.length_map, List.length_set, List.length_append, Bool.or_true, Bool.true_or, beq_self_eq_true, Int.natCast_nonneg, Int.reduceBEq, Int.reduceBNe, Int.reduceLT, Int.reduceLE, Int.reduceGT, Int.reduceGE, Int.reduceAdd, Int.reduceSub, Int.reduceNeg, decide_true, decide_false, Bool.true_and, Bool.false_and, Bool.and_true, Bool.and_false, kind3, size3, kind9, size9, kind25, size25, kind89, size89, off89_0, off89_1, off89_2, List.length_map, encT, *]
                 first | done | with_reducible rfl
               · simp only [aput, Bool.false_eq_true, if_false, if_true, List.getElem?_cons_succ, List.getElem?_cons_zero, rootableA, List.set, List.set_cons_succ, List.set_cons_zero, List.map_cons, List.map_nil, aun, menA, menAs, Bool.or_false, Bool.or_self, beq_self_eq_true, Nat.reduceBEq, reduceIte]; with_reducible rfl)
            | (with_reducible apply al_skip
               · simp only [gchk, graw, List.getElem?_toArray, List.getElem?_cons_succ, List.getElem?_cons_zero, Bool.not_true, Bool.not_false, *]
               · simp only [aput, Bool.false_eq_true, if_false, if_true, List.getElem?_cons_succ, List.getElem?_cons_zero, rootableA, List.set, List.set_cons_succ, List.set_cons_zero, List.map_cons, List.map_nil, aun, menA, menAs, Bool.or_false, Bool.or_self, beq_self_eq_true, Nat.reduceBEq, reduceIte]; with_reducible rfl)
            | (with_reducible apply al_caseT rfl
               · simp only [gchk, graw, List.getElem?_toArray, List.getElem?_cons_succ, List.getElem?_cons_zero, Bool.not_true, Bool.not_false, *]; with_reducible rfl
               · simp only [aput, Bool.false_eq_true, if_false, if_true, List.getElem?_cons_succ, List.getElem?_cons_zero, rootableA, List.set, List.set_cons_succ, List.set_cons_zero, List.map_cons, List.map_nil, aun, menA, menAs, Bool.or_false, Bool.or_self, beq_self_eq_true, Nat.reduceBEq, reduceIte]; with_reducible rfl
               intro h
               try simp only [Bool.not_eq_true', Bool.not_eq_false'] at h
               rotate_left
               intro h
               try simp only [Bool.not_eq_true', Bool.not_eq_false'] at h
               rotate_right
               fail_if_success (with_reducible have hh : true = true := h))
            | (with_reducible apply al_caseF rfl
               · simp only [gchk, graw, List.getElem?_toArray, List.getElem?_cons_succ, List.getElem?_cons_zero, Bool.not_true, Bool.not_false, *]; with_reducible rfl
               · simp only [aput, Bool.false_eq_true, if_false, if_true, List.getElem?_cons_succ, List.getElem?_cons_zero, rootableA, List.set, List.set_cons_succ, List.set_cons_zero, List.map_cons, List.map_nil, aun, menA, menAs, Bool.or_false, Bool.or_self, beq_self_eq_true, Nat.reduceBEq, reduceIte]; with_reducible rfl
               intro h
               try simp only [Bool.not_eq_true', Bool.not_eq_false'] at h
               rotate_left
               intro h
               try simp only [Bool.not_eq_true', Bool.not_eq_false'] at h
               rotate_right
               fail_if_success (with_reducible have hh : false = false := h))
            )
          (simp only [ares, aresL, ares1, ard, aview, aviews, atake, atakes, List.getElem?_cons_succ, List.getElem?_cons_zero, aget, agetN, rootA, kind3, size3, kind9, size9, kind25, size25, kind89, size89, off89_0, off89_1, off89_2, fitsA, reduceCtorEq, if_true, alens, alen, *])
          rw [run1_none htk]
        | true =>
          rw [hb] at hs htk
          simp only [if_true, true_and] at hs htk
          by_cases hgt : m < takesI t.op
          · rw [if_neg (by simpa using hgt)] at htk
            have hg : decide (takesI t.op > m) = true := by simpa using hgt
            repeat' (first
              | with_reducible refine aw_seq ?_
              | with_reducible refine aw_block ?_
              | with_reducible refine aw_skip ?_
              | with_reducible refine aw_exit ?_
              | with_reducible refine aw_ret ?_
              | with_reducible refine thenA_n ?_
              | with_reducible refine thenA_r ?_
              | with_reducible refine thenA_x ?_
              | with_reducible refine blockA_n ?_
              | with_reducible refine blockA_r ?_
              | with_reducible refine blockA_e ?_
              | with_reducible refine blockA_x (by decide) ?_
              | with_reducible refine ends_r ?_
              | with_reducible refine ends_n ?_
              | with_reducible refine aw_reg ?_
              | (with_reducible refine aw_any hT ?_ ?_
                 · decide +kernel)
              | with_reducible refine al_nil ?_
              | (with_reducible apply aw_cond
                 · simp only [ard, aview, List.getElem?_cons_succ, List.getElem?_cons_zero, *]; with_reducible rfl
                 all_goals (intro h; try simp only [Bool.not_eq_true', Bool.not_eq_false', reduceCtorEq] at h))
              | (with_reducible apply al_call (f := 53)
                 · first | exact gchk_none rfl | simp only [gchk, graw, List.getElem?_toArray, List.getElem?_cons_succ, List.getElem?_cons_zero, Bool.not_true, Bool.not_false, *]
                 · rfl
                 · exact Go.Proofs.Try.call53
                 · simp only [ast, qv, ard, aconst, arefs, arefss, aview, aviews, atake, atakes, true_or, or_true, or_self, and_self, and_true, true_and, not_false_eq_true, ne_eq, eq_self, aput, Bool.false_eq_true, if_false, if_true, List.getElem?_cons_succ, List.getElem?_cons_zero, rootableA, List.set, List.set_cons_succ, List.set_cons_zero, List.map_cons, List.map_nil, aun, menA, menAs, Bool.or_false, Bool.or_self, beq_self_eq_true, Nat.reduceBEq, reduceIte, binA, unA, convA, intBin, strBin, bndA, minA, maxA, ards, List.toList_toArray, List.getElem?_toArray, reduceCtorEq, aget, agetN, aset, asetR, asetN, asetq, asetc, aclr, rootA, scalarA, hitA, hitAs, List.any_nil, List.any_cons, List.isPrefixOf, List.nil_append, List.cons_append, List.append_nil, List.append_assoc, alen, alens, plA, plAs, fitsA, fieldOk, List.take_zero, List.take_succ_cons, List.take_nil, List.length_cons, List.length_nil, Nat.reduceAdd, Nat.reduceLT, Nat.reduceEqDiff, Nat.reduceBNe, Bool.and_self, Bool.and_true, Bool.true_and, Bool.not_true, Bool.not_false, bne_iff_ne, bne_self_eq_false, Nat.zero_add, Nat.add_zero, Int.toNat_natCast, List.getElem?_map, Option.map_some, List.length_replicate, List.length_map, List.length_set, List.length_append, Bool.or_true, Bool.true_or, beq_self_eq_true, Int.natCast_nonneg, Int.reduceBEq, Int.reduceBNe, Int.reduceLT, Int.reduceLE, Int.reduceGT, Int.reduceGE, Int.reduceAdd, Int.reduceSub, Int.reduceNeg, decide_true, decide_false, Bool.true_and, Bool.false_and, Bool.and_true, Bool.and_false, kind3, size3, kind9, size9, kind25, size25, kind89, size89, off89_0, off89_1, off89_2, List.length_map, encT, *]; with_reducible rfl
                 · simp only [plAs, plA, Bool.and_self, Bool.and_true, Bool.true_and, *]
                 · (with_reducible apply c_spec_l8Takes) <;> assumption
                 · simp only [aput, Bool.false_eq_true, if_false, if_true, List.getElem?_cons_succ, List.getElem?_cons_zero, rootableA, List.set, List.set_cons_succ, List.set_cons_zero, List.map_cons, List.map_nil, aun, menA, menAs, Bool.or_false, Bool.or_self, beq_self_eq_true, Nat.reduceBEq, reduceIte]; with_reducible rfl)
              | (with_reducible apply al_snap (f := 53)
                 · first | exact gchk_none rfl | simp only [gchk, graw, List.getElem?_toArray, List.getElem?_cons_succ, List.getElem?_cons_zero, Bool.not_true, Bool.not_false, *]
                 · rfl
                 · exact Go.Proofs.Try.call53
                 · simp only [ast, qv, ard, aconst, arefs, arefss, aview, aviews, atake, atakes, true_or, or_true, or_self, and_self, and_true, true_and, not_false_eq_true, ne_eq, eq_self, aput, Bool.false_eq_true, if_false, if_true, List.getElem?_cons_succ, List.getElem?_cons_zero, rootableA, List.set, List.set_cons_succ, List.set_cons_zero, List.map_cons, List.map_nil, aun, menA, menAs, Bool.or_false, Bool.or_self, beq_self_eq_true, Nat.reduceBEq, reduceIte, binA, unA, convA, intBin, strBin, bndA, minA, maxA, ards, List.toList_toArray, List.getElem?_toArray, reduceCtorEq, aget, agetN, aset, asetR, asetN, asetq, asetc, aclr, rootA, scalarA, hitA, hitAs, List.any_nil, List.any_cons, List.isPrefixOf, List.nil_append, List.cons_append, List.append_nil, List.append_assoc, alen, alens, plA, plAs, fitsA, fieldOk, List.take_zero, List.take_succ_cons, List.take_nil, List.length_cons, List.length_nil, Nat.reduceAdd, Nat.reduceLT, Nat.reduceEqDiff, Nat.reduceBNe, Bool.and_self, Bool.and_true, Bool.true_and, Bool.not_true, Bool.not_false, bne_iff_ne, bne_self_eq_false, Nat.zero_add, Nat.add_zero, Int.toNat_natCast, List.getElem?_map, Option.map_some, List.length_replicate, List.length_map, List.length_set, List.length_append, Bool.or_true, Bool.true_or, beq_self_eq_true, Int.natCast_nonneg, Int.reduceBEq, Int.reduceBNe, Int.reduceLT, Int.reduceLE, Int.reduceGT, Int.reduceGE, Int.reduceAdd, Int.reduceSub, Int.reduceNeg, decide_true, decide_false, Bool.true_and, Bool.false_and, Bool.and_true, Bool.and_false, kind3, size3, kind9, size9, kind25, size25, kind89, size89, off89_0, off89_1, off89_2, List.length_map, encT, *]; with_reducible rfl
                 · simp only [asnap, asnaps, ash, ashs, List.drop_zero, ast, qv, ard, aconst, arefs, arefss, aview, aviews, atake, atakes, true_or, or_true, or_self, and_self, and_true, true_and, not_false_eq_true, ne_eq, eq_self, aput, Bool.false_eq_true, if_false, if_true, List.getElem?_cons_succ, List.getElem?_cons_zero, rootableA, List.set, List.set_cons_succ, List.set_cons_zero, List.map_cons, List.map_nil, aun, menA, menAs, Bool.or_false, Bool.or_self, beq_self_eq_true, Nat.reduceBEq, reduceIte, binA, unA, convA, intBin, strBin, bndA, minA, maxA, ards, List.toList_toArray, List.getElem?_toArray, reduceCtorEq, aget, agetN, aset, asetR, asetN, asetq, asetc, aclr, rootA, scalarA, hitA, hitAs, List.any_nil, List.any_cons, List.isPrefixOf, List.nil_append, List.cons_append, List.append_nil, List.append_assoc, alen, alens, plA, plAs, fitsA, fieldOk, List.take_zero, List.take_succ_cons, List.take_nil, List.length_cons, List.length_nil, Nat.reduceAdd, Nat.reduceLT, Nat.reduceEqDiff, Nat.reduceBNe, Bool.and_self, Bool.and_true, Bool.true_and, Bool.not_true, Bool.not_false, bne_iff_ne, bne_self_eq_false, Nat.zero_add, Nat.add_zero, Int.toNat_natCast, List.getElem?_map, Option.map_some, List.length_replicate, List.length_map, List.length_set, List.length_append, Bool.or_true, Bool.true_or, beq_self_eq_true, Int.natCast_nonneg, Int.reduceBEq, Int.reduceBNe, Int.reduceLT, Int.reduceLE, Int.reduceGT, Int.reduceGE, Int.reduceAdd, Int.reduceSub, Int.reduceNeg, decide_true, decide_false, Bool.true_and, Bool.false_and, Bool.and_true, Bool.and_false, kind3, size3, kind9, size9, kind25, size25, kind89, size89, off89_0, off89_1, off89_2, List.length_map, encT, *]; with_reducible rfl
                 · (with_reducible apply c_spec_l8Takes) <;> assumption
                 · simp only [noSh, noShs, Bool.and_self, *]
                 · simp only [aput, Bool.false_eq_true, if_false, if_true, List.getElem?_cons_succ, List.getElem?_cons_zero, rootableA, List.set, List.set_cons_succ, List.set_cons_zero, List.map_cons, List.map_nil, aun, menA, menAs, Bool.or_false, Bool.or_self, beq_self_eq_true, Nat.reduceBEq, reduceIte]; with_reducible rfl)
              | (with_reducible apply al_s hT true
                 · first | exact gchk_none rfl | simp only [gchk, graw, List.getElem?_toArray, List.getElem?_cons_succ, List.getElem?_cons_zero, Bool.not_true, Bool.not_false, *]
                 · simp only [ast, qv, ard, aconst, arefs, arefss, aview, aviews, atake, atakes, true_or, or_true, or_self, and_self, and_true, true_and, not_false_eq_true, ne_eq, eq_self, aput, Bool.false_eq_true, if_false, if_true, List.getElem?_cons_succ, List.getElem?_cons_zero, rootableA, List.set, List.set_cons_succ, List.set_cons_zero, List.map_cons, List.map_nil, aun, menA, menAs, Bool.or_false, Bool.or_self, beq_self_eq_true, Nat.reduceBEq, reduceIte, binA, unA, convA, intBin, strBin, bndA, minA, maxA, ards, List.toList_toArray, List.getElem?_toArray, reduceCtorEq, aget, agetN, aset, asetR, asetN, asetq, asetc, aclr, rootA, scalarA, hitA, hitAs, List.any_nil, List.any_cons, List.isPrefixOf, List.nil_append, List.cons_append, List.append_nil, List.append_assoc, alen, alens, plA, plAs, fitsA, fieldOk, List.take_zero, List.take_succ_cons, List.take_nil, List.length_cons, List.length_nil, Nat.reduceAdd, Nat.reduceLT, Nat.reduceEqDiff, Nat.reduceBNe, Bool.and_self, Bool.and_true, Bool.true_and, Bool.not_true, Bool.not_false, bne_iff_ne, bne_self_eq_false, Nat.zero_add, Nat.add_zero, Int.toNat_natCast, List.getElem?_map, Option.map_some, List.length_replicate, List.length_map, List.length_set, List.length_append, Bool.or_true, Bool.true_or, beq_self_eq_true, Int.natCast_nonneg, Int.reduceBEq, Int.reduceBNe, Int.reduceLT, Int.reduceLE, Int.reduceGT, Int.reduceGE, Int.reduceAdd, Int.reduceSub, Int.reduceNeg, decide_true, decide_false, Bool.true_and, Bool.false_and, Bool.and_true, Bool.and_false, kind3, size3, kind9, size9, kind25, size25, kind89, size89, off89_0, off89_1, off89_2, List.length_map, encT, *]
                   first | done | with_reducible rfl)
              | (with_reducible apply al_q hT
                 · first | exact gchk_none rfl | simp only [gchk, graw, List.getElem?_toArray, List.getElem?_cons_succ, List.getElem?_cons_zero, Bool.not_true, Bool.not_false, *]
                 · simp only [ast, qv, ard, aconst, arefs, arefss, aview, aviews, atake, atakes, true_or, or_true, or_self, and_self, and_true, true_and, not_false_eq_true, ne_eq, eq_self, aput, Bool.false_eq_true, if_false, if_true, List.getElem?_cons_succ, List.getElem?_cons_zero, rootableA, List.set, List.set_cons_succ, List.set_cons_zero, List.map_cons, List.map_nil, aun, menA, menAs, Bool.or_false, Bool.or_self, beq_self_eq_true, Nat.reduceBEq, reduceIte, binA, unA, convA, intBin, strBin, bndA, minA, maxA, ards, List.toList_toArray, List.getElem?_toArray, reduceCtorEq, aget, agetN, aset, asetR, asetN, asetq, asetc, aclr, rootA, scalarA, hitA, hitAs, List.any_nil, List.any_cons, List.isPrefixOf, List.nil_append, List.cons_append, List.append_nil, List.append_assoc, alen, alens, plA, plAs, fitsA, fieldOk, List.take_zero, List.take_succ_cons, List.take_nil, List.length_cons, List.length_nil, Nat.reduceAdd, Nat.reduceLT, Nat.reduceEqDiff, Nat.reduceBNe, Bool.and_self, Bool.and_true, Bool.true_and, Bool.not_true, Bool.not_false, bne_iff_ne, bne_self_eq_false, Nat.zero_add, Nat.add_zero, Int.toNat_natCast, List.getElem?_map, Option.map_some, List.length_replicate, List.length_map, List.length_set, List.length_append, Bool.or_true, Bool.true_or, beq_self_eq_true, Int.natCast_nonneg, Int.reduceBEq, Int.reduceBNe, Int.reduceLT, Int.reduceLE, Int.reduceGT, Int.reduceGE, Int.reduceAdd, Int.reduceSub, Int.reduceNeg, decide_true, decide_false, Bool.true_and, Bool.false_and, Bool.and_true, Bool.and_false, kind3, size3, kind9, size9, kind25, size25, kind89, size89, off89_0, off89_1, off89_2, List.length_map, encT, *]
                   first | done | with_reducible rfl
                 · simp only [aput, Bool.false_eq_true, if_false, if_true, List.getElem?_cons_succ, List.getElem?_cons_zero, rootableA, List.set, List.set_cons_succ, List.set_cons_zero, List.map_cons, List.map_nil, aun, menA, menAs, Bool.or_false, Bool.or_self, beq_self_eq_true, Nat.reduceBEq, reduceIte]; with_reducible rfl)
              | (with_reducible apply al_skip
                 · simp only [gchk, graw, List.getElem?_toArray, List.getElem?_cons_succ, List.getElem?_cons_zero, Bool.not_true, Bool.not_false, *]
                 · simp only [aput, Bool.false_eq_true, if_false, if_true, List.getElem?_cons_succ, List.getElem?_cons_zero, rootableA, List.set, List.set_cons_succ, List.set_cons_zero, List.map_cons, List.map_nil, aun, menA, menAs, Bool.or_false, Bool.or_self, beq_self_eq_true, Nat.reduceBEq, reduceIte]; with_reducible rfl)
              | (with_reducible apply al_caseT rfl
                 · simp only [gchk, graw, List.getElem?_toArray, List.getElem?_cons_succ, List.getElem?_cons_zero, Bool.not_true, Bool.not_false, *]; with_reducible rfl
                 · simp only [aput, Bool.false_eq_true, if_false, if_true, List.getElem?_cons_succ, List.getElem?_cons_zero, rootableA, List.set, List.set_cons_succ, List.set_cons_zero, List.map_cons, List.map_nil, aun, menA, menAs, Bool.or_false, Bool.or_self, beq_self_eq_true, Nat.reduceBEq, reduceIte]; with_reducible rfl
                 intro h
                 try simp only [Bool.not_eq_true', Bool.not_eq_false'] at h
                 rotate_left
                 intro h
                 try simp only [Bool.not_eq_true', Bool.not_eq_false'] at h
                 rotate_right
                 fail_if_success (with_reducible have hh : true = true := h))
              | (with_reducible apply al_caseF rfl
                 · simp only [gchk, graw, List.getElem?_toArray, List.getElem?_cons_succ, List.getElem?_cons_zero, Bool.not_true, Bool.not_false, *]; with_reducible rfl
                 · simp only [aput, Bool.false_eq_true, if_false, if_true, List.getElem?_cons_succ, List.getElem?_cons_zero, rootableA, List.set, List.set_cons_succ, List.set_cons_zero, List.map_cons, List.map_nil, aun, menA, menAs, Bool.or_false, Bool.or_self, beq_self_eq_true, Nat.reduceBEq, reduceIte]; with_reducible rfl
                 intro h
                 try simp only [Bool.not_eq_true', Bool.not_eq_false'] at h
                 rotate_left
                 intro h
                 try simp only [Bool.not_eq_true', Bool.not_eq_false'] at h
                 rotate_right
                 fail_if_success (with_reducible have hh : false = false := h))
              )
            (simp only [ares, aresL, ares1, ard, aview, aviews, atake, atakes, List.getElem?_cons_succ, List.getElem?_cons_zero, aget, agetN, rootA, kind3, size3, kind9, size9, kind25, size25, kind89, size89, off89_0, off89_1, off89_2, fitsA, reduceCtorEq, if_true, alens, alen, *])
            rw [run1_none htk]
          · rw [if_pos hgt] at htk
            have hg : decide (takesI t.op > m) = false := by simpa using hgt
            repeat' (first
              | with_reducible refine aw_seq ?_
              | with_reducible refine aw_block ?_
              | with_reducible refine aw_skip ?_
              | with_reducible refine aw_exit ?_
              | with_reducible refine aw_ret ?_
              | with_reducible refine thenA_n ?_
              | with_reducible refine thenA_r ?_
              | with_reducible refine thenA_x ?_
              | with_reducible refine blockA_n ?_
              | with_reducible refine blockA_r ?_
              | with_reducible refine blockA_e ?_
              | with_reducible refine blockA_x (by decide) ?_
              | with_reducible refine ends_r ?_
              | with_reducible refine ends_n ?_
              | with_reducible refine aw_reg ?_
              | (with_reducible refine aw_any hT ?_ ?_
                 · decide +kernel)
              | with_reducible refine al_nil ?_
              | (with_reducible apply aw_cond
                 · simp only [ard, aview, List.getElem?_cons_succ, List.getElem?_cons_zero, *]; with_reducible rfl
                 all_goals (intro h; try simp only [Bool.not_eq_true', Bool.not_eq_false', reduceCtorEq] at h))
              | (with_reducible apply al_call (f := 53)
                 · first | exact gchk_none rfl | simp only [gchk, graw, List.getElem?_toArray, List.getElem?_cons_succ, List.getElem?_cons_zero, Bool.not_true, Bool.not_false, *]
                 · rfl
                 · exact Go.Proofs.Try.call53
                 · simp only [ast, qv, ard, aconst, arefs, arefss, aview, aviews, atake, atakes, true_or, or_true, or_self, and_self, and_true, true_and, not_false_eq_true, ne_eq, eq_self, aput, Bool.false_eq_true, if_false, if_true, List.getElem?_cons_succ, List.getElem?_cons_zero, rootableA, List.set, List.set_cons_succ, List.set_cons_zero, List.map_cons, List.map_nil, aun, menA, menAs, Bool.or_false, Bool.or_self, beq_self_eq_true, Nat.reduceBEq, reduceIte, binA, unA, convA, intBin, strBin, bndA, minA, maxA, ards, List.toList_toArray, List.getElem?_toArray, reduceCtorEq, aget, agetN, aset, asetR, asetN, asetq, asetc, aclr, rootA, scalarA, hitA, hitAs, List.any_nil, List.any_cons, List.isPrefixOf, List.nil_append, List.cons_append, List.append_nil, List.append_assoc, alen, alens, plA, plAs, fitsA, fieldOk, List.take_zero, List.take_succ_cons, List.take_nil, List.length_cons, List.length_nil, Nat.reduceAdd, Nat.reduceLT, Nat.reduceEqDiff, Nat.reduceBNe, Bool.and_self, Bool.and_true, Bool.true_and, Bool.not_true, Bool.not_false, bne_iff_ne, bne_self_eq_false, Nat.zero_add, Nat.add_zero, Int.toNat_natCast, List.getElem?_map, Option.map_some, List.length_replicate, List.length_map, List.length_set, List.length_append, Bool.or_true, Bool.true_or, beq_self_eq_true, Int.natCast_nonneg, Int.reduceBEq, Int.reduceBNe, Int.reduceLT, Int.reduceLE, Int.reduceGT, Int.reduceGE, Int.reduceAdd, Int.reduceSub, Int.reduceNeg, decide_true, decide_false, Bool.true_and, Bool.false_and, Bool.and_true, Bool.and_false, kind3, size3, kind9, size9, kind25, size25, kind89, size89, off89_0, off89_1, off89_2, List.length_map, encT, *]; with_reducible rfl
                 · simp only [plAs, plA, Bool.and_self, Bool.and_true, Bool.true_and, *]
                 · (with_reducible apply c_spec_l8Takes) <;> assumption
                 · simp only [aput, Bool.false_eq_true, if_false, if_true, List.getElem?_cons_succ, List.getElem?_cons_zero, rootableA, List.set, List.set_cons_succ, List.set_cons_zero, List.map_cons, List.map_nil, aun, menA, menAs, Bool.or_false, Bool.or_self, beq_self_eq_true, Nat.reduceBEq, reduceIte]; with_reducible rfl)
              | (with_reducible apply al_snap (f := 53)
                 · first | exact gchk_none rfl | simp only [gchk, graw, List.getElem?_toArray, List.getElem?_cons_succ, List.getElem?_cons_zero, Bool.not_true, Bool.not_false, *]
                 · rfl
                 · exact Go.Proofs.Try.call53
                 · simp only [ast, qv, ard, aconst, arefs, arefss, aview, aviews, atake, atakes, true_or, or_true, or_self, and_self, and_true, true_and, not_false_eq_true, ne_eq, eq_self, aput, Bool.false_eq_true, if_false, if_true, List.getElem?_cons_succ, List.getElem?_cons_zero, rootableA, List.set, List.set_cons_succ, List.set_cons_zero, List.map_cons, List.map_nil, aun, menA, menAs, Bool.or_false, Bool.or_self, beq_self_eq_true, Nat.reduceBEq, reduceIte, binA, unA, convA, intBin, strBin, bndA, minA, maxA, ards, List.toList_toArray, List.getElem?_toArray, reduceCtorEq, aget, agetN, aset, asetR, asetN, asetq, asetc, aclr, rootA, scalarA, hitA, hitAs, List.any_nil, List.any_cons, List.isPrefixOf, List.nil_append, List.cons_append, List.append_nil, List.append_assoc, alen, alens, plA, plAs, fitsA, fieldOk, List.take_zero, List.take_succ_cons, List.take_nil, List.length_cons, List.length_nil, Nat.reduceAdd, Nat.reduceLT, Nat.reduceEqDiff, Nat.reduceBNe, Bool.and_self, Bool.and_true, Bool.true_and, Bool.not_true, Bool.not_false, bne_iff_ne, bne_self_eq_false, Nat.zero_add, Nat.add_zero, Int.toNat_natCast, List.getElem?_map, Option.map_some, List.length_replicate, List.length_map, List.length_set, List.length_append, Bool.or_true, Bool.true_or, beq_self_eq_true, Int.natCast_nonneg, Int.reduceBEq, Int.reduceBNe, Int.reduceLT, Int.reduceLE, Int.reduceGT, Int.reduceGE, Int.reduceAdd, Int.reduceSub, Int.reduceNeg, decide_true, decide_false, Bool.true_and, Bool.false_and, Bool.and_true, Bool.and_false, kind3, size3, kind9, size9, kind25, size25, kind89, size89, off89_0, off89_1, off89_2, List.length_map, encT, *]; with_reducible rfl
                 · simp only [asnap, asnaps, ash, ashs, List.drop_zero, ast, qv, ard, aconst, arefs, arefss, aview, aviews, atake, atakes, true_or, or_true, or_self, and_self, and_true, true_and, not_false_eq_true, ne_eq, eq_self, aput, Bool.false_eq_true, if_false, if_true, List.getElem?_cons_succ, List.getElem?_cons_zero, rootableA, List.set, List.set_cons_succ, List.set_cons_zero, List.map_cons, List.map_nil, aun, menA, menAs, Bool.or_false, Bool.or_self, beq_self_eq_true, Nat.reduceBEq, reduceIte, binA, unA, convA, intBin, strBin, bndA, minA, maxA, ards, List.toList_toArray, List.getElem?_toArray, reduceCtorEq, aget, agetN, aset, asetR, asetN, asetq, asetc, aclr, rootA, scalarA, hitA, hitAs, List.any_nil, List.any_cons, List.isPrefixOf, List.nil_append, List.cons_append, List.append_nil, List.append_assoc, alen, alens, plA, plAs, fitsA, fieldOk, List.take_zero, List.take_succ_cons, List.take_nil, List.length_cons, List.length_nil, Nat.reduceAdd, Nat.reduceLT, Nat.reduceEqDiff, Nat.reduceBNe, Bool.and_self, Bool.and_true, Bool.true_and, Bool.not_true, Bool.not_false, bne_iff_ne, bne_self_eq_false, Nat.zero_add, Nat.add_zero, Int.toNat_natCast, List.getElem?_map, Option.map_some, List.length_replicate, List.length_map, List.length_set, List.length_append, Bool.or_true, Bool.true_or, beq_self_eq_true, Int.natCast_nonneg, Int.reduceBEq, Int.reduceBNe, Int.reduceLT, Int.reduceLE, Int.reduceGT, Int.reduceGE, Int.reduceAdd, Int.reduceSub, Int.reduceNeg, decide_true, decide_false, Bool.true_and, Bool.false_and, Bool.and_true, Bool.and_false, kind3, size3, kind9, size9, kind25, size25, kind89, size89, off89_0, off89_1, off89_2, List.length_map, encT, *]; with_reducible rfl
                 · (with_reducible apply c_spec_l8Takes) <;> assumption
                 · simp only [noSh, noShs, Bool.and_self, *]
                 · simp only [aput, Bool.false_eq_true, if_false, if_true, List.getElem?_cons_succ, List.getElem?_cons_zero, rootableA, List.set, List.set_cons_succ, List.set_cons_zero, List.map_cons, List.map_nil, aun, menA, menAs, Bool.or_false, Bool.or_self, beq_self_eq_true, Nat.reduceBEq, reduceIte]; with_reducible rfl)
              | (with_reducible apply al_s hT true
                 · first | exact gchk_none rfl | simp only [gchk, graw, List.getElem?_toArray, List.getElem?_cons_succ, List.getElem?_cons_zero, Bool.not_true, Bool.not_false, *]
                 · simp only [ast, qv, ard, aconst, arefs, arefss, aview, aviews, atake, atakes, true_or, or_true, or_self, and_self, and_true, true_and, not_false_eq_true, ne_eq, eq_self, aput, Bool.false_eq_true, if_false, if_true, List.getElem?_cons_succ, List.getElem?_cons_zero, rootableA, List.set, List.set_cons_succ, List.set_cons_zero, List.map_cons, List.map_nil, aun, menA, menAs, Bool.or_false, Bool.or_self, beq_self_eq_true, Nat.reduceBEq, reduceIte, binA, unA, convA, intBin, strBin, bndA, minA, maxA, ards, List.toList_toArray, List.getElem?_toArray, reduceCtorEq, aget, agetN, aset, asetR, asetN, asetq, asetc, aclr, rootA, scalarA, hitA, hitAs, List.any_nil, List.any_cons, List.isPrefixOf, List.nil_append, List.cons_append, List.append_nil, List.append_assoc, alen, alens, plA, plAs, fitsA, fieldOk, List.take_zero, List.take_succ_cons, List.take_nil, List.length_cons, List.length_nil, Nat.reduceAdd, Nat.reduceLT, Nat.reduceEqDiff, Nat.reduceBNe, Bool.and_self, Bool.and_true, Bool.true_and, Bool.not_true, Bool.not_false, bne_iff_ne, bne_self_eq_false, Nat.zero_add, Nat.add_zero, Int.toNat_natCast, List.getElem?_map, Option.map_some, List.length_replicate, List.length_map, List.length_set, List.length_append, Bool.or_true, Bool.true_or, beq_self_eq_true, Int.natCast_nonneg, Int.reduceBEq, Int.reduceBNe, Int.reduceLT, Int.reduceLE, Int.reduceGT, Int.reduceGE, Int.reduceAdd, Int.reduceSub, Int.reduceNeg, decide_true, decide_false, Bool.true_and, Bool.false_and, Bool.and_true, Bool.and_false, kind3, size3, kind9, size9, kind25, size25, kind89, size89, off89_0, off89_1, off89_2, List.length_map, encT, *]
                   first | done | with_reducible rfl)
              | (with_reducible apply al_q hT
                 · first | exact gchk_none rfl | simp only [gchk, graw, List.getElem?_toArray, List.getElem?_cons_succ, List.getElem?_cons_zero, Bool.not_true, Bool.not_false, *]
                 · simp only [ast, qv, ard, aconst, arefs, arefss, aview, aviews, atake, atakes, true_or, or_true, or_self, and_self, and_true, true_and, not_false_eq_true, ne_eq, eq_self, aput, Bool.false_eq_true, if_false, if_true, List.getElem?_cons_succ, List.getElem?_cons_zero, rootableA, List.set, List.set_cons_succ, List.set_cons_zero, List.map_cons, List.map_nil, aun, menA, menAs, Bool.or_false, Bool.or_self, beq_self_eq_true, Nat.reduceBEq, reduceIte, binA, unA, convA, intBin, strBin, bndA, minA, maxA, ards, List.toList_toArray, List.getElem?_toArray, reduceCtorEq, aget, agetN, aset, asetR, asetN, asetq, asetc, aclr, rootA, scalarA, hitA, hitAs, List.any_nil, List.any_cons, List.isPrefixOf, List.nil_append, List.cons_append, List.append_nil, List.append_assoc, alen, alens, plA, plAs, fitsA, fieldOk, List.take_zero, List.take_succ_cons, List.take_nil, List.length_cons, List.length_nil, Nat.reduceAdd, Nat.reduceLT, Nat.reduceEqDiff, Nat.reduceBNe, Bool.and_self, Bool.and_true, Bool.true_and, Bool.not_true, Bool.not_false, bne_iff_ne, bne_self_eq_false, Nat.zero_add, Nat.add_zero, Int.toNat_natCast, List.getElem?_map, Option.map_some, List.length_replicate, List.length_map, List.length_set, List.length_append, Bool.or_true, Bool.true_or, beq_self_eq_true, Int.natCast_nonneg, Int.reduceBEq, Int.reduceBNe, Int.reduceLT, Int.reduceLE, Int.reduceGT, Int.reduceGE, Int.reduceAdd, Int.reduceSub, Int.reduceNeg, decide_true, decide_false, Bool.true_and, Bool.false_and, Bool.and_true, Bool.and_false, kind3, size3, kind9, size9, kind25, size25, kind89, size89, off89_0, off89_1, off89_2, List.length_map, encT, *]
                   first | done | with_reducible rfl
                 · simp only [aput, Bool.false_eq_true, if_false, if_true, List.getElem?_cons_succ, List.getElem?_cons_zero, rootableA, List.set, List.set_cons_succ, List.set_cons_zero, List.map_cons, List.map_nil, aun, menA, menAs, Bool.or_false, Bool.or_self, beq_self_eq_true, Nat.reduceBEq, reduceIte]; with_reducible rfl)
              | (with_reducible apply al_skip
                 · simp only [gchk, graw, List.getElem?_toArray, List.getElem?_cons_succ, List.getElem?_cons_zero, Bool.not_true, Bool.not_false, *]
                 · simp only [aput, Bool.false_eq_true, if_false, if_true, List.getElem?_cons_succ, List.getElem?_cons_zero, rootableA, List.set, List.set_cons_succ, List.set_cons_zero, List.map_cons, List.map_nil, aun, menA, menAs, Bool.or_false, Bool.or_self, beq_self_eq_true, Nat.reduceBEq, reduceIte]; with_reducible rfl)
              | (with_reducible apply al_caseT rfl
                 · simp only [gchk, graw, List.getElem?_toArray, List.getElem?_cons_succ, List.getElem?_cons_zero, Bool.not_true, Bool.not_false, *]; with_reducible rfl
                 · simp only [aput, Bool.false_eq_true, if_false, if_true, List.getElem?_cons_succ, List.getElem?_cons_zero, rootableA, List.set, List.set_cons_succ, List.set_cons_zero, List.map_cons, List.map_nil, aun, menA, menAs, Bool.or_false, Bool.or_self, beq_self_eq_true, Nat.reduceBEq, reduceIte]; with_reducible rfl
                 intro h
                 try simp only [Bool.not_eq_true', Bool.not_eq_false'] at h
                 rotate_left
                 intro h
                 try simp only [Bool.not_eq_true', Bool.not_eq_false'] at h
                 rotate_right
                 fail_if_success (with_reducible have hh : true = true := h))
              | (with_reducible apply al_caseF rfl
                 · simp only [gchk, graw, List.getElem?_toArray, List.getElem?_cons_succ, List.getElem?_cons_zero, Bool.not_true, Bool.not_false, *]; with_reducible rfl
                 · simp only [aput, Bool.false_eq_true, if_false, if_true, List.getElem?_cons_succ, List.getElem?_cons_zero, rootableA, List.set, List.set_cons_succ, List.set_cons_zero, List.map_cons, List.map_nil, aun, menA, menAs, Bool.or_false, Bool.or_self, beq_self_eq_true, Nat.reduceBEq, reduceIte]; with_reducible rfl
                 intro h
                 try simp only [Bool.not_eq_true', Bool.not_eq_false'] at h
                 rotate_left
                 intro h
                 try simp only [Bool.not_eq_true', Bool.not_eq_false'] at h
                 rotate_right
                 fail_if_success (with_reducible have hh : false = false := h))
              )
            refine ⟨f.length - (i + 1), by omega, i + 1, m + (1 - takesI t.op), rfl, by omega, by omega, by omega, htk, ?_⟩
            simp only [clr, aput, Bool.false_eq_true, if_false, if_true, List.getElem?_cons_succ, List.getElem?_cons_zero, rootableA, List.set, List.set_cons_succ, List.set_cons_zero, List.map_cons, List.map_nil, aun, menA, menAs, Bool.or_false, Bool.or_self, beq_self_eq_true, Nat.reduceBEq, reduceIte, hw]
            have e : m - takesI t.op + 1 = m + (1 - takesI t.op) := by omega
            rw [e]
      · have hd : decide ((i : Int) < (f.length : Int)) = false := by simp; omega
        clear ht
        repeat' (first
          | with_reducible refine aw_seq ?_
          | with_reducible refine aw_block ?_
          | with_reducible refine aw_skip ?_
          | with_reducible refine aw_exit ?_
          | with_reducible refine aw_ret ?_
          | with_reducible refine thenA_n ?_
          | with_reducible refine thenA_r ?_
          | with_reducible refine thenA_x ?_
          | with_reducible refine blockA_n ?_
          | with_reducible refine blockA_r ?_
          | with_reducible refine blockA_e ?_
          | with_reducible refine blockA_x (by decide) ?_
          | with_reducible refine ends_r ?_
          | with_reducible refine ends_n ?_
          | with_reducible refine aw_reg ?_
          | (with_reducible refine aw_any hT ?_ ?_
             · decide +kernel)
          | with_reducible refine al_nil ?_
          | (with_reducible apply aw_cond
             · simp only [ard, aview, List.getElem?_cons_succ, List.getElem?_cons_zero, *]; with_reducible rfl
             all_goals (intro h; try simp only [Bool.not_eq_true', Bool.not_eq_false', reduceCtorEq] at h))
          | (with_reducible apply al_call (f := 53)
             · first | exact gchk_none rfl | simp only [gchk, graw, List.getElem?_toArray, List.getElem?_cons_succ, List.getElem?_cons_zero, Bool.not_true, Bool.not_false, *]
             · rfl
             · exact Go.Proofs.Try.call53
             · simp only [ast, qv, ard, aconst, arefs, arefss, aview, aviews, atake, atakes, true_or, or_true, or_self, and_self, and_true, true_and, not_false_eq_true, ne_eq, eq_self, aput, Bool.false_eq_true, if_false, if_true, List.getElem?_cons_succ, List.getElem?_cons_zero, rootableA, List.set, List.set_cons_succ, List.set_cons_zero, List.map_cons, List.map_nil, aun, menA, menAs, Bool.or_false, Bool.or_self, beq_self_eq_true, Nat.reduceBEq, reduceIte, binA, unA, convA, intBin, strBin, bndA, minA, maxA, ards, List.toList_toArray, List.getElem?_toArray, reduceCtorEq, aget, agetN, aset, asetR, asetN, asetq, asetc, aclr, rootA, scalarA, hitA, hitAs, List.any_nil, List.any_cons, List.isPrefixOf, List.nil_append, List.cons_append, List.append_nil, List.append_assoc, alen, alens, plA, plAs, fitsA, fieldOk, List.take_zero, List.take_succ_cons, List.take_nil, List.length_cons, List.length_nil, Nat.reduceAdd, Nat.reduceLT, Nat.reduceEqDiff, Nat.reduceBNe, Bool.and_self, Bool.and_true, Bool.true_and, Bool.not_true, Bool.not_false, bne_iff_ne, bne_self_eq_false, Nat.zero_add, Nat.add_zero, Int.toNat_natCast, List.getElem?_map, Option.map_some, List.length_replicate, List.length_map, List.length_set, List.length_append, Bool.or_true, Bool.true_or, beq_self_eq_true, Int.natCast_nonneg, Int.reduceBEq, Int.reduceBNe, Int.reduceLT, Int.reduceLE, Int.reduceGT, Int.reduceGE, Int.reduceAdd, Int.reduceSub, Int.reduceNeg, decide_true, decide_false, Bool.true_and, Bool.false_and, Bool.and_true, Bool.and_false, kind3, size3, kind9, size9, kind25, size25, kind89, size89, off89_0, off89_1, off89_2, List.length_map, encT, *]; with_reducible rfl
             · simp only [plAs, plA, Bool.and_self, Bool.and_true, Bool.true_and, *]
             · (with_reducible apply c_spec_l8Takes) <;> assumption
             · simp only [aput, Bool.false_eq_true, if_false, if_true, List.getElem?_cons_succ, List.getElem?_cons_zero, rootableA, List.set, List.set_cons_succ, List.set_cons_zero, List.map_cons, List.map_nil, aun, menA, menAs, Bool.or_false, Bool.or_self, beq_self_eq_true, Nat.reduceBEq, reduceIte]; with_reducible rfl)
          | (with_reducible apply al_snap (f := 53)
             · first | exact gchk_none rfl | simp only [gchk, graw, List.getElem?_toArray, List.getElem?_cons_succ, List.getElem?_cons_zero, Bool.not_true, Bool.not_false, *]
             · rfl
             · exact Go.Proofs.Try.call53
             · simp only [ast, qv, ard, aconst, arefs, arefss, aview, aviews, atake, atakes, true_or, or_true, or_self, and_self, and_true, true_and, not_false_eq_true, ne_eq, eq_self, aput, Bool.false_eq_true, if_false, if_true, List.getElem?_cons_succ, List.getElem?_cons_zero, rootableA, List.set, List.set_cons_succ, List.set_cons_zero, List.map_cons, List.map_nil, aun, menA, menAs, Bool.or_false, Bool.or_self, beq_self_eq_true, Nat.reduceBEq, reduceIte, binA, unA, convA, intBin, strBin, bndA, minA, maxA, ards, List.toList_toArray, List.getElem?_toArray, reduceCtorEq, aget, agetN, aset, asetR, asetN, asetq, asetc, aclr, rootA, scalarA, hitA, hitAs, List.any_nil, List.any_cons, List.isPrefixOf, List.nil_append, List.cons_append, List.append_nil, List.append_assoc, alen, alens, plA, plAs, fitsA, fieldOk, List.take_zero, List.take_succ_cons, List.take_nil, List.length_cons, List.length_nil, Nat.reduceAdd, Nat.reduceLT, Nat.reduceEqDiff, Nat.reduceBNe, Bool.and_self, Bool.and_true, Bool.true_and, Bool.not_true, Bool.not_false, bne_iff_ne, bne_self_eq_false, Nat.zero_add, Nat.add_zero, Int.toNat_natCast, List.getElem?_map, Option.map_some, List.length_replicate, List.length_map, List.length_set, List.length_append, Bool.or_true, Bool.true_or, beq_self_eq_true, Int.natCast_nonneg, Int.reduceBEq, Int.reduceBNe, Int.reduceLT, Int.reduceLE, Int.reduceGT, Int.reduceGE, Int.reduceAdd, Int.reduceSub, Int.reduceNeg, decide_true, decide_false, Bool.true_and, Bool.false_and, Bool.and_true, Bool.and_false, kind3, size3, kind9, size9, kind25, size25, kind89, size89, off89_0, off89_1, off89_2, List.length_map, encT, *]; with_reducible rfl
             · simp only [asnap, asnaps, ash, ashs, List.drop_zero, ast, qv, ard, aconst, arefs, arefss, aview, aviews, atake, atakes, true_or, or_true, or_self, and_self, and_true, true_and, not_false_eq_true, ne_eq, eq_self, aput, Bool.false_eq_true, if_false, if_true, List.getElem?_cons_succ, List.getElem?_cons_zero, rootableA, List.set, List.set_cons_succ, List.set_cons_zero, List.map_cons, List.map_nil, aun, menA, menAs, Bool.or_false, Bool.or_self, beq_self_eq_true, Nat.reduceBEq, reduceIte, binA, unA, convA, intBin, strBin, bndA, minA, maxA, ards, List.toList_toArray, List.getElem?_toArray, reduceCtorEq, aget, agetN, aset, asetR, asetN, asetq, asetc, aclr, rootA, scalarA, hitA, hitAs, List.any_nil, List.any_cons, List.isPrefixOf, List.nil_append, List.cons_append, List.append_nil, List.append_assoc, alen, alens, plA, plAs, fitsA, fieldOk, List.take_zero, List.take_succ_cons, List.take_nil, List.length_cons, List.length_nil, Nat.reduceAdd, Nat.reduceLT, Nat.reduceEqDiff, Nat.reduceBNe, Bool.and_self, Bool.and_true, Bool.true_and, Bool.not_true, Bool.not_false, bne_iff_ne, bne_self_eq_false, Nat.zero_add, Nat.add_zero, Int.toNat_natCast, List.getElem?_map, Option.map_some, List.length_replicate, List.length_map, List.length_set, List.length_append, Bool.or_true, Bool.true_or, beq_self_eq_true, Int.natCast_nonneg, Int.reduceBEq, Int.reduceBNe, Int.reduceLT, Int.reduceLE, Int.reduceGT, Int.reduceGE, Int.reduceAdd, Int.reduceSub, Int.reduceNeg, decide_true, decide_false, Bool.true_and, Bool.false_and, Bool.and_true, Bool.and_false, kind3, size3, kind9, size9, kind25, size25, kind89, size89, off89_0, off89_1, off89_2, List.length_map, encT, *]; with_reducible rfl
             · (with_reducible apply c_spec_l8Takes) <;> assumption
             · simp only [noSh, noShs, Bool.and_self, *]
             · simp only [aput, Bool.false_eq_true, if_false, if_true, List.getElem?_cons_succ, List.getElem?_cons_zero, rootableA, List.set, List.set_cons_succ, List.set_cons_zero, List.map_cons, List.map_nil, aun, menA, menAs, Bool.or_false, Bool.or_self, beq_self_eq_true, Nat.reduceBEq, reduceIte]; with_reducible rfl)
          | (with_reducible apply al_s hT true
             · first | exact gchk_none rfl | simp only [gchk, graw, List.getElem?_toArray, List.getElem?_cons_succ, List.getElem?_cons_zero, Bool.not_true, Bool.not_false, *]
             · simp only [ast, qv, ard, aconst, arefs, arefss, aview, aviews, atake, atakes, true_or, or_true, or_self, and_self, and_true, true_and, not_false_eq_true, ne_eq, eq_self, aput, Bool.false_eq_true, if_false, if_true, List.getElem?_cons_succ, List.getElem?_cons_zero, rootableA, List.set, List.set_cons_succ, List.set_cons_zero, List.map_cons, List.map_nil, aun, menA, menAs, Bool.or_false, Bool.or_self, beq_self_eq_true, Nat.reduceBEq, reduceIte, binA, unA, convA, intBin, strBin, bndA, minA, maxA, ards, List.toList_toArray, List.getElem?_toArray, reduceCtorEq, aget, agetN, aset, asetR, asetN, asetq, asetc, aclr, rootA, scalarA, hitA, hitAs, List.any_nil, List.any_cons, List.isPrefixOf, List.nil_append, List.cons_append, List.append_nil, List.append_assoc, alen, alens, plA, plAs, fitsA, fieldOk, List.take_zero, List.take_succ_cons, List.take_nil, List.length_cons, List.length_nil, Nat.reduceAdd, Nat.reduceLT, Nat.reduceEqDiff, Nat.reduceBNe, Bool.and_self, Bool.and_true, Bool.true_and, Bool.not_true, Bool.not_false, bne_iff_ne, bne_self_eq_false, Nat.zero_add, Nat.add_zero, Int.toNat_natCast, List.getElem?_map, Option.map_some, List.length_replicate, List.length_map, List.length_set, List.length_append, Bool.or_true, Bool.true_or, beq_self_eq_true, Int.natCast_nonneg, Int.reduceBEq, Int.reduceBNe, Int.reduceLT, Int.reduceLE, Int.reduceGT, Int.reduceGE, Int.reduceAdd, Int.reduceSub, Int.reduceNeg, decide_true, decide_false, Bool.true_and, Bool.false_and, Bool.and_true, Bool.and_false, kind3, size3, kind9, size9, kind25, size25, kind89, size89, off89_0, off89_1, off89_2, List.length_map, encT, *]
               first | done | with_reducible rfl)
          | (with_reducible apply al_q hT
             · first | exact gchk_none rfl | simp only [gchk, graw, List.getElem?_toArray, List.getElem?_cons_succ, List.getElem?_cons_zero, Bool.not_true, Bool.not_false, *]
             · simp only [ast, qv, ard, aconst, arefs, arefss, aview, aviews, atake, atakes, true_or, or_true, or_self, and_self, and_true, true_and, not_false_eq_true, ne_eq, eq_self, aput, Bool.false_eq_true, if_false, if_true, List.getElem?_cons_succ, List.getElem?_cons_zero, rootableA, List.set, List.set_cons_succ, List.set_cons_zero, List.map_cons, List.map_nil, aun, menA, menAs, Bool.or_false, Bool.or_self, beq_self_eq_true, Nat.reduceBEq, reduceIte, binA, unA, convA, intBin, strBin, bndA, minA, maxA, ards, List.toList_toArray, List.getElem?_toArray, reduceCtorEq, aget, agetN, aset, asetR, asetN, asetq, asetc, aclr, rootA, scalarA, hitA, hitAs, List.any_nil, List.any_cons, List.isPrefixOf, List.nil_append, List.cons_append, List.append_nil, List.append_assoc, alen, alens, plA, plAs, fitsA, fieldOk, List.take_zero, List.take_succ_cons, List.take_nil, List.length_cons, List.length_nil, Nat.reduceAdd, Nat.reduceLT, Nat.reduceEqDiff, Nat.reduceBNe, Bool.and_self, Bool.and_true, Bool.true_and, Bool.not_true, Bool.not_false, bne_iff_ne, bne_self_eq_false, Nat.zero_add, Nat.add_zero, Int.toNat_natCast, List.getElem?_map, Option.map_some, List.length_replicate, List.length_map, List.length_set, List.length_append, Bool.or_true, Bool.true_or, beq_self_eq_true, Int.natCast_nonneg, Int.reduceBEq, Int.reduceBNe, Int.reduceLT, Int.reduceLE, Int.reduceGT, Int.reduceGE, Int.reduceAdd, Int.reduceSub, Int.reduceNeg, decide_true, decide_false, Bool.true_and, Bool.false_and, Bool.and_true, Bool.and_false, kind3, size3, kind9, size9, kind25, size25, kind89, size89, off89_0, off89_1, off89_2, List.length_map, encT, *]
               first | done | with_reducible rfl
             · simp only [aput, Bool.false_eq_true, if_false, if_true, List.getElem?_cons_succ, List.getElem?_cons_zero, rootableA, List.set, List.set_cons_succ, List.set_cons_zero, List.map_cons, List.map_nil, aun, menA, menAs, Bool.or_false, Bool.or_self, beq_self_eq_true, Nat.reduceBEq, reduceIte]; with_reducible rfl)
          | (with_reducible apply al_skip
             · simp only [gchk, graw, List.getElem?_toArray, List.getElem?_cons_succ, List.getElem?_cons_zero, Bool.not_true, Bool.not_false, *]
             · simp only [aput, Bool.false_eq_true, if_false, if_true, List.getElem?_cons_succ, List.getElem?_cons_zero, rootableA, List.set, List.set_cons_succ, List.set_cons_zero, List.map_cons, List.map_nil, aun, menA, menAs, Bool.or_false, Bool.or_self, beq_self_eq_true, Nat.reduceBEq, reduceIte]; with_reducible rfl)
          | (with_reducible apply al_caseT rfl
             · simp only [gchk, graw, List.getElem?_toArray, List.getElem?_cons_succ, List.getElem?_cons_zero, Bool.not_true, Bool.not_false, *]; with_reducible rfl
             · simp only [aput, Bool.false_eq_true, if_false, if_true, List.getElem?_cons_succ, List.getElem?_cons_zero, rootableA, List.set, List.set_cons_succ, List.set_cons_zero, List.map_cons, List.map_nil, aun, menA, menAs, Bool.or_false, Bool.or_self, beq_self_eq_true, Nat.reduceBEq, reduceIte]; with_reducible rfl
             intro h
             try simp only [Bool.not_eq_true', Bool.not_eq_false'] at h
             rotate_left
             intro h
             try simp only [Bool.not_eq_true', Bool.not_eq_false'] at h
             rotate_right
             fail_if_success (with_reducible have hh : true = true := h))
          | (with_reducible apply al_caseF rfl
             · simp only [gchk, graw, List.getElem?_toArray, List.getElem?_cons_succ, List.getElem?_cons_zero, Bool.not_true, Bool.not_false, *]; with_reducible rfl
             · simp only [aput, Bool.false_eq_true, if_false, if_true, List.getElem?_cons_succ, List.getElem?_cons_zero, rootableA, List.set, List.set_cons_succ, List.set_cons_zero, List.map_cons, List.map_nil, aun, menA, menAs, Bool.or_false, Bool.or_self, beq_self_eq_true, Nat.reduceBEq, reduceIte]; with_reducible rfl
             intro h
             try simp only [Bool.not_eq_true', Bool.not_eq_false'] at h
             rotate_left
             intro h
             try simp only [Bool.not_eq_true', Bool.not_eq_false'] at h
             rotate_right
             fail_if_success (with_reducible have hh : false = false := h))
          )
        all_goals (
          (simp only [ares, aresL, ares1, ard, aview, aviews, atake, atakes, List.getElem?_cons_succ, List.getElem?_cons_zero, aget, agetN, rootA, kind3, size3, kind9, size9, kind25, size25, kind89, size89, off89_0, off89_1, off89_2, fitsA, reduceCtorEq, if_true, alens, alen, *])
          have hall : run1 f 0 = some m := by rw [← hr, List.take_of_length_le (by omega)]
          simp_all [filterB]
          try (intro hx; omega))
end Go.Proofs.Ytjmodjanaeoiiaa
