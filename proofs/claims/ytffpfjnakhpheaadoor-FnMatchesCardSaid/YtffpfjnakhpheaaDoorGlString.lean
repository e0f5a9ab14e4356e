/- Contracts of the law's helpers: String. -/
import Derived.Test.YtffpfjnakhpheaaDoorKA
import Derived.Test.YtffpfjnakhpheaaDoorGlText
namespace Go.Proofs.YtffpfjnakhpheaaDoor
open Go Go.RowKit Go.Bv
set_option linter.unusedSimpArgs false
set_option linter.unusedVariables false
set_option maxRecDepth 4000
set_option maxHeartbeats 1000000
def encString (x : ByteArray) : AV := .str x
def wString (x : ByteArray) : Nat := x.size
def okString (x : ByteArray) : Prop := x.size < 4611686018427387904
def meString (_ : ByteArray) (k : Int) : ByteArray := mText (k)
def mwString (_ : ByteArray) : Nat := 1
theorem mw10String (x : ByteArray) : mwString x ≤ 10 * (1 + wString x) := by unfold mwString; omega
def wStringS (f : List ByteArray) : Nat := f.length + sumL wString f
def okStringS (f : List ByteArray) : Prop := f.length < 4611686018427387904 ∧ ∀ x ∈ f, okString x
def mkStringS (f : List ByteArray) (k : Int) : List ByteArray := mkL meString mwString f k
def mwStringS (f : List ByteArray) : Nat := sumL mwString f
theorem mw10StringS (f : List ByteArray) : mwStringS f ≤ 10 * wStringS f := sum10 mw10String f
theorem ashs_String (f : List ByteArray) : ashs (f.map encString) = f.map encString := ashs_map (g := encString) (h := encString) (fun x => rfl) f
theorem plAs_String (f : List ByteArray) : plAs (f.map encString) = true := plAs_map (g := encString) (fun x => rfl) f
theorem alen_String (f : List ByteArray) : ((f.map encString).all fun u => alen u == 1) = true := alen_map (g := encString) (fun x => rfl) f
theorem noShs_String (f : List ByteArray) : noShs (f.map encString) = true := noShs_map (g := encString) (fun x => rfl) f
theorem leafAs_String (f : List ByteArray) : leafAs (f.map encString) = true := leafAs_map (g := encString) (fun x => rfl) f
attribute [go_sem] ashs_String plAs_String alen_String noShs_String leafAs_String
def zeroString : AV := .str { data := #[] }
end Go.Proofs.YtffpfjnakhpheaaDoor
