/- Contracts of the law's helpers: Msg. -/
import Derived.Test.YtedjmclcjkcooaaFnV
import Derived.Test.YtedjmclcjkcooaaGlText
namespace Go.Proofs.Ytedjmclcjkcooaa
open Go Go.RowKit Go.Bv
set_option linter.unusedSimpArgs false
set_option linter.unusedVariables false
set_option maxRecDepth 4000
set_option maxHeartbeats 1000000
structure MsgV where
  kind : Int
  num : Int
  text : ByteArray
def encMsg (o : Bool) (x : MsgV) : AV := .agg [.int .i64 x.kind, .int .i64 x.num, .str x.text]
theorem ash_Msg (o : Bool) (x : MsgV) : ash (encMsg o x) = encMsg false x := by simp only [encMsg, ash, ashs]
theorem plA_Msg (o : Bool) (x : MsgV) : plA (encMsg o x) = true := by simp only [encMsg, plA, plAs, Bool.and_self]
theorem noSh_Msg (x : MsgV) : noSh (encMsg true x) = true := by simp only [encMsg, noSh, noShs, Bool.and_self]
attribute [go_sem] ash_Msg plA_Msg noSh_Msg
def wMsg (x : MsgV) : Nat := x.text.size
def okMsg (x : MsgV) : Prop := x.text.size < 4611686018427387904
def meMsg (x : MsgV) (k : Int) : MsgV := { kind := k, num := k + 1, text := mText (k + 1 + 1) }
def mwMsg (x : MsgV) : Nat := 3
theorem mw10Msg (x : MsgV) : mwMsg x ≤ 10 * (1 + wMsg x) := by
  skip
  simp only [mwMsg, wMsg]; omega
def wMsgS (f : List MsgV) : Nat := f.length + sumL wMsg f
def okMsgS (f : List MsgV) : Prop := f.length < 4611686018427387904 ∧ ∀ x ∈ f, okMsg x
def mkMsgS (f : List MsgV) (k : Int) : List MsgV := mkL meMsg mwMsg f k
def mwMsgS (f : List MsgV) : Nat := sumL mwMsg f
theorem mw10MsgS (f : List MsgV) : mwMsgS f ≤ 10 * wMsgS f := sum10 mw10Msg f
theorem ashs_Msg (o : Bool) (f : List MsgV) : ashs (f.map (encMsg o)) = f.map (encMsg false) := ashs_map (g := (encMsg o)) (h := (encMsg false)) (fun x => ash_Msg o x) f
theorem plAs_Msg (o : Bool) (f : List MsgV) : plAs (f.map (encMsg o)) = true := plAs_map (g := (encMsg o)) (fun x => plA_Msg o x) f
theorem alen_Msg (o : Bool) (f : List MsgV) : ((f.map (encMsg o)).all fun u => alen u == 3) = true := alen_map (g := (encMsg o)) (fun x => rfl) f
theorem noShs_Msg (f : List MsgV) : noShs (f.map (encMsg true)) = true := noShs_map (g := (encMsg true)) (fun x => noSh_Msg x) f
theorem leafAs_Msg (o : Bool) (f : List MsgV) : leafAs (f.map (encMsg o)) = true := leafAs_map (g := (encMsg o)) (fun x => rfl) f
attribute [go_sem] ashs_Msg plAs_Msg alen_Msg noShs_Msg leafAs_Msg
def zeroMsg : AV := .agg [.int .i64 0, .int .i64 0, .str { data := #[] }]
theorem c_laws_szMsg (x : MsgV) (left : Int) {u : AV} (hu : u = encMsg false x) (hb : okMsg x) (h0 : decide (left < 0) = false) (h1 : left ≤ 1048576) : Sound P 8 [u, .int .i64 left] (.int .i64 (szW (wMsg x) left)) := by
  subst hu
  have hp : 0 ≤ left := by simpa using h0
  have hb0 := hb
  simp only [okMsg] at hb0
  have hw0 : IntKind.i64.wrap (left - (x.text.size : Int)) = left - (x.text.size : Int) := by rw [wrap_small] <;> omega
  refine sound_body hT Try.func8 rfl ?_
  rw [Try.results8, Try.ntmps8]
  simp only [frame, List.length_cons, List.length_nil, List.replicate, List.cons_append, List.nil_append, Nat.reduceAdd, Nat.reduceSub]
  repeat' (first
  | with_reducible first | refine aw_seq ?_ | refine aw_skip ?_
  | with_reducible first | refine aw_ret ?_ | refine thenA_n ?_ | refine thenA_r ?_ | refine ends_r ?_ | refine aw_reg ?_
  | with_reducible refine al_nil ?_
  | (with_reducible apply aw_cond
     · simp only [go_sem, *]; with_reducible rfl
     all_goals (intro h; try simp only [Bool.not_eq_true', Bool.not_eq_false', reduceCtorEq] at h))
  | (with_reducible apply al_s hT true
     · first | exact gchk_none rfl | simp only [go_sem, *]
     · simp only [go_sem, encMsg, *]; first | done | with_reducible rfl)
  )
  all_goals (
    (simp only [go_sem, *])
    first
    | done
    | (have hT : wMsg x = x.text.size := rfl
       simp only [decide_eq_true_eq, decide_eq_false_iff_not, Option.some.injEq, AV.int.injEq, true_and] at *
       rcases szW_cases (wMsg x) left with ⟨_, _⟩ | ⟨_, _⟩ <;> omega))
theorem c_laws_toMsg (x : MsgV) {u : AV} (hu : u = encMsg false x) (hw : wMsg x ≤ 4194304) : Sound P 11 [u] (encMsg true x) := by
  subst hu
  clear hw
  refine sound_body hT Try.func11 rfl ?_
  rw [Try.results11, Try.ntmps11]
  simp only [frame, List.length_cons, List.length_nil, List.replicate, List.cons_append, List.nil_append, Nat.reduceAdd, Nat.reduceSub]
  repeat' (first
  | with_reducible refine aw_seq ?_
  | with_reducible first | refine aw_ret ?_ | refine thenA_n ?_ | refine ends_r ?_ | refine aw_reg ?_
  | with_reducible refine al_nil ?_
  | (with_reducible apply al_s hT true
     · first | exact gchk_none rfl | simp only [go_sem, *]
     · simp only [go_sem, encMsg, *]; first | done | with_reducible rfl)
  )
  all_goals ((simp only [go_sem, *]); first | done | rfl)
theorem c_laws_eqMsg (x : MsgV) {u v : AV} (hu : u = encMsg false x) (hv : v = encMsg false x) (hw : wMsg x ≤ 4194304) : Sound P 19 [u, v] (.bool true) := by
  subst hu hv
  clear hw
  refine sound_body hT Try.func19 rfl ?_
  rw [Try.results19, Try.ntmps19]
  simp only [frame, List.length_cons, List.length_nil, List.replicate, List.cons_append, List.nil_append, Nat.reduceAdd, Nat.reduceSub]
  repeat' (first
  | with_reducible first | refine aw_seq ?_ | refine aw_skip ?_
  | with_reducible first | refine aw_ret ?_ | refine thenA_n ?_ | refine ends_r ?_ | refine aw_reg ?_
  | with_reducible refine al_nil ?_
  | (with_reducible apply aw_cond
     · simp only [go_sem, *]; with_reducible rfl
     all_goals (intro h; try simp only [Bool.not_eq_true', Bool.not_eq_false', reduceCtorEq] at h))
  | (with_reducible apply al_s hT true
     · first | exact gchk_none rfl | simp only [go_sem, *]
     · simp only [go_sem, encMsg, *]; first | done | with_reducible rfl)
  )
  all_goals (simp only [go_sem, *])
end Go.Proofs.Ytedjmclcjkcooaa
