/- Contracts of the law's helpers: Bool. -/
import Derived.Test.YtffpfjnakhpheaaDoorKA
import Derived.Test.YtffpfjnakhpheaaDoorGlText
namespace Go.Proofs.YtffpfjnakhpheaaDoor
open Go Go.RowKit Go.Bv
set_option linter.unusedSimpArgs false
set_option linter.unusedVariables false
set_option maxRecDepth 4000
set_option maxHeartbeats 1000000
def encBool (x : Bool) : AV := .bool x
def wBool (x : Bool) : Nat := 0
def okBool (x : Bool) : Prop := True
def meBool (_ : Bool) (k : Int) : Bool := mBool (k)
def mwBool (_ : Bool) : Nat := 1
theorem mw10Bool (x : Bool) : mwBool x ≤ 10 * (1 + wBool x) := by unfold mwBool; omega
def wBoolS (f : List Bool) : Nat := f.length + sumL wBool f
def okBoolS (f : List Bool) : Prop := f.length < 4611686018427387904 ∧ ∀ x ∈ f, okBool x
def mkBoolS (f : List Bool) (k : Int) : List Bool := mkL meBool mwBool f k
def mwBoolS (f : List Bool) : Nat := sumL mwBool f
theorem mw10BoolS (f : List Bool) : mwBoolS f ≤ 10 * wBoolS f := sum10 mw10Bool f
theorem ashs_Bool (f : List Bool) : ashs (f.map encBool) = f.map encBool := ashs_map (g := encBool) (h := encBool) (fun x => rfl) f
theorem plAs_Bool (f : List Bool) : plAs (f.map encBool) = true := plAs_map (g := encBool) (fun x => rfl) f
theorem alen_Bool (f : List Bool) : ((f.map encBool).all fun u => alen u == 1) = true := alen_map (g := encBool) (fun x => rfl) f
theorem noShs_Bool (f : List Bool) : noShs (f.map encBool) = true := noShs_map (g := encBool) (fun x => rfl) f
theorem leafAs_Bool (f : List Bool) : leafAs (f.map encBool) = true := leafAs_map (g := encBool) (fun x => rfl) f
attribute [go_sem] ashs_Bool plAs_Bool alen_Bool noShs_Bool leafAs_Bool
def zeroBool : AV := .bool false
end Go.Proofs.YtffpfjnakhpheaaDoor
