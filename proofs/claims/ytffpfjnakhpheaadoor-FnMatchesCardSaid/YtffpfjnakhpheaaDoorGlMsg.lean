/- Contracts of the law's helpers: Msg. -/
import Derived.Test.YtffpfjnakhpheaaDoorKA
import Derived.Test.YtffpfjnakhpheaaDoorGlText
namespace Go.Proofs.YtffpfjnakhpheaaDoor
open Go Go.RowKit Go.Bv
set_option linter.unusedSimpArgs false
set_option linter.unusedVariables false
set_option maxRecDepth 4000
set_option maxHeartbeats 1000000
structure MsgV where
  kind : Int
  num : Int
  text : ByteArray
def encMsg (o : Bool) (x : MsgV) : AV := .agg [.int .i64 x.kind, .int .i64 x.num, .str x.text]
theorem ash_Msg (o : Bool) (x : MsgV) : ash (encMsg o x) = encMsg false x := by simp only [encMsg, ash, ashs]
theorem plA_Msg (o : Bool) (x : MsgV) : plA (encMsg o x) = true := by simp only [encMsg, plA, plAs, Bool.and_self]
theorem noSh_Msg (x : MsgV) : noSh (encMsg true x) = true := by simp only [encMsg, noSh, noShs, Bool.and_self]
attribute [go_sem] ash_Msg plA_Msg noSh_Msg
def wMsg (x : MsgV) : Nat := x.text.size
def okMsg (x : MsgV) : Prop := x.text.size < 4611686018427387904
def meMsg (x : MsgV) (k : Int) : MsgV := { kind := k, num := k + 1, text := mText (k + 1 + 1) }
def mwMsg (x : MsgV) : Nat := 3
theorem mw10Msg (x : MsgV) : mwMsg x ≤ 10 * (1 + wMsg x) := by
  skip
  simp only [mwMsg, wMsg]; omega
def wMsgS (f : List MsgV) : Nat := f.length + sumL wMsg f
def okMsgS (f : List MsgV) : Prop := f.length < 4611686018427387904 ∧ ∀ x ∈ f, okMsg x
def mkMsgS (f : List MsgV) (k : Int) : List MsgV := mkL meMsg mwMsg f k
def mwMsgS (f : List MsgV) : Nat := sumL mwMsg f
theorem mw10MsgS (f : List MsgV) : mwMsgS f ≤ 10 * wMsgS f := sum10 mw10Msg f
theorem ashs_Msg (o : Bool) (f : List MsgV) : ashs (f.map (encMsg o)) = f.map (encMsg false) := ashs_map (g := (encMsg o)) (h := (encMsg false)) (fun x => ash_Msg o x) f
theorem plAs_Msg (o : Bool) (f : List MsgV) : plAs (f.map (encMsg o)) = true := plAs_map (g := (encMsg o)) (fun x => plA_Msg o x) f
theorem alen_Msg (o : Bool) (f : List MsgV) : ((f.map (encMsg o)).all fun u => alen u == 3) = true := alen_map (g := (encMsg o)) (fun x => rfl) f
theorem noShs_Msg (f : List MsgV) : noShs (f.map (encMsg true)) = true := noShs_map (g := (encMsg true)) (fun x => noSh_Msg x) f
theorem leafAs_Msg (o : Bool) (f : List MsgV) : leafAs (f.map (encMsg o)) = true := leafAs_map (g := (encMsg o)) (fun x => rfl) f
attribute [go_sem] ashs_Msg plAs_Msg alen_Msg noShs_Msg leafAs_Msg
def zeroMsg : AV := .agg [.int .i64 0, .int .i64 0, .str { data := #[] }]
end Go.Proofs.YtffpfjnakhpheaaDoor
