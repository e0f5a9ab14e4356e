/- The set of plain rules by which the steps of a walk are reckoned. Generic: no program. -/
import Derived.Test.YtjmodjanaeoiiaaBvGr
import Derived.Attr
namespace Go.Bv
open Go Go.RowKit
attribute [go_sem] ast qv ard aconst arefs arefss aview aviews atake atakes true_or or_true or_self and_self and_true true_and not_false_eq_true ne_eq eq_self
attribute [go_sem] aput Bool.false_eq_true if_false if_true List.getElem?_cons_succ List.getElem?_cons_zero rootableA List.set List.set_cons_succ List.set_cons_zero List.map_cons List.map_nil aun menA menAs Bool.or_false Bool.or_self beq_self_eq_true
attribute [go_sem] gchk graw List.getElem?_toArray Bool.not_true Bool.not_false
attribute [go_sem] binA unA convA intBin strBin bndA minA maxA ards List.toList_toArray aget agetN aset asetR asetN asetq asetc aclr rootA scalarA hitA hitAs List.any_nil List.any_cons List.isPrefixOf List.nil_append List.cons_append List.append_nil List.append_assoc alen alens plA plAs fitsA fieldOk List.drop_zero List.take_of_length_le Nat.le_refl List.take_zero List.take_succ_cons List.take_nil List.length_cons List.length_nil Bool.and_self Bool.and_true Bool.true_and bne_iff_ne bne_self_eq_false Nat.zero_add Nat.add_zero Int.toNat_natCast List.getElem?_map Option.map_some List.length_replicate List.length_map List.length_set List.length_append Bool.or_true Bool.true_or Int.natCast_nonneg decide_true decide_false Bool.false_and Bool.and_false
attribute [go_sem] asnap asnaps ash ashs noSh noShs aback hinA hinAs aggPath List.drop_nil aels leafA leafAs lenOf skA skAs bldChk asetAll List.zip_cons_cons List.zip_nil_right List.replicate List.all_cons List.all_nil isByte
attribute [go_sem] Nat.reduceAdd Nat.reduceLT Nat.reduceEqDiff Nat.reduceBNe Nat.reduceBEq Int.reduceBEq Int.reduceBNe Int.reduceLT Int.reduceLE Int.reduceGT Int.reduceGE Int.reduceAdd Int.reduceSub Int.reduceNeg Int.reduceEq reduceCtorEq reduceIte
theorem wrap_lit {n : Int} (h : -9223372036854775808 ≤ n) (h' : n ≤ 9223372036854775807) : IntKind.i64.wrap n = n := by rw [IntKind.wrap_i64]; omega
attribute [go_sem] wrap_lit Int.cast_ofNat_Int Int.sub_zero Int.add_zero Int.zero_add
attribute [go_sem] Nat.reduceSub Nat.reduceMul Nat.reduceDiv Nat.reduceMod Nat.reduceLeDiff Nat.reduceGT Int.reduceMul Int.reduceDiv Int.reduceMod Int.reduceToNat Nat.sub_zero Nat.sub_self
attribute [go_sem] noRoom ares aresL ares1 aresM resV
theorem al_cast {P : Program} {f : Bool} {ops : Array Oper} {l : List Oper} {S S' : List AV} {N : List AV → Prop} (e : S = S') (h : AL P f ops l S' N) : AL P f ops l S N := e ▸ h
end Go.Bv
