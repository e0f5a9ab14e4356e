/- Contracts of the law's helpers: Term. -/
import Derived.Test.YtffpfjnakhpheaaDoorKA
import Derived.Test.YtffpfjnakhpheaaDoorGlText
namespace Go.Proofs.YtffpfjnakhpheaaDoor
open Go Go.RowKit Go.Bv
set_option linter.unusedSimpArgs false
set_option linter.unusedVariables false
set_option maxRecDepth 4000
set_option maxHeartbeats 1000000
structure TermV where
  op : Int
  num : Int
  text : ByteArray
def encT (x : TermV) : AV := .agg [.int .i64 x.op, .int .i64 x.num, .str x.text]
theorem encT_eq (t : TermV) : encT t = .agg [.int .i64 t.op, .int .i64 t.num, .str t.text] := rfl
def TermV.fits (t : TermV) : Prop := t.text.size < 4611686018427387904
def wTerm (x : TermV) : Nat := x.text.size
def okTerm (x : TermV) : Prop := x.text.size < 4611686018427387904
def meTerm (x : TermV) (k : Int) : TermV := { op := k, num := k + 1, text := mText (k + 1 + 1) }
def mwTerm (x : TermV) : Nat := 3
theorem mw10Term (x : TermV) : mwTerm x ≤ 10 * (1 + wTerm x) := by
  skip
  simp only [mwTerm, wTerm]; omega
def wTermS (f : List TermV) : Nat := f.length + sumL wTerm f
def okTermS (f : List TermV) : Prop := f.length < 4611686018427387904 ∧ ∀ x ∈ f, okTerm x
def mkTermS (f : List TermV) (k : Int) : List TermV := mkL meTerm mwTerm f k
def mwTermS (f : List TermV) : Nat := sumL mwTerm f
theorem mw10TermS (f : List TermV) : mwTermS f ≤ 10 * wTermS f := sum10 mw10Term f
theorem ashs_Term (f : List TermV) : ashs (f.map encT) = f.map encT := ashs_map (g := encT) (h := encT) (fun x => rfl) f
theorem plAs_Term (f : List TermV) : plAs (f.map encT) = true := plAs_map (g := encT) (fun x => rfl) f
theorem alen_Term (f : List TermV) : ((f.map encT).all fun u => alen u == 3) = true := alen_map (g := encT) (fun x => rfl) f
theorem noShs_Term (f : List TermV) : noShs (f.map encT) = true := noShs_map (g := encT) (fun x => rfl) f
theorem leafAs_Term (f : List TermV) : leafAs (f.map encT) = true := leafAs_map (g := encT) (fun x => rfl) f
attribute [go_sem] ashs_Term plAs_Term alen_Term noShs_Term leafAs_Term
def zeroTerm : AV := .agg [.int .i64 0, .int .i64 0, .str { data := #[] }]
end Go.Proofs.YtffpfjnakhpheaaDoor
