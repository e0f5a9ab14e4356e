/- Contracts of the law's helpers: Int. -/
import Derived.Test.YtffpfjnakhpheaaDoorKA
import Derived.Test.YtffpfjnakhpheaaDoorGlText
namespace Go.Proofs.YtffpfjnakhpheaaDoor
open Go Go.RowKit Go.Bv
set_option linter.unusedSimpArgs false
set_option linter.unusedVariables false
set_option maxRecDepth 4000
set_option maxHeartbeats 1000000
def encInt (x : Int) : AV := .int .i64 x
def wInt (x : Int) : Nat := 0
def okInt (x : Int) : Prop := True
def meInt (_ : Int) (k : Int) : Int := k
def mwInt (_ : Int) : Nat := 1
theorem mw10Int (x : Int) : mwInt x ≤ 10 * (1 + wInt x) := by unfold mwInt; omega
def wIntS (f : List Int) : Nat := f.length + sumL wInt f
def okIntS (f : List Int) : Prop := f.length < 4611686018427387904 ∧ ∀ x ∈ f, okInt x
def mkIntS (f : List Int) (k : Int) : List Int := mkL meInt mwInt f k
def mwIntS (f : List Int) : Nat := sumL mwInt f
theorem mw10IntS (f : List Int) : mwIntS f ≤ 10 * wIntS f := sum10 mw10Int f
theorem ashs_Int (f : List Int) : ashs (f.map encInt) = f.map encInt := ashs_map (g := encInt) (h := encInt) (fun x => rfl) f
theorem plAs_Int (f : List Int) : plAs (f.map encInt) = true := plAs_map (g := encInt) (fun x => rfl) f
theorem alen_Int (f : List Int) : ((f.map encInt).all fun u => alen u == 1) = true := alen_map (g := encInt) (fun x => rfl) f
theorem noShs_Int (f : List Int) : noShs (f.map encInt) = true := noShs_map (g := encInt) (fun x => rfl) f
theorem leafAs_Int (f : List Int) : leafAs (f.map encInt) = true := leafAs_map (g := encInt) (fun x => rfl) f
attribute [go_sem] ashs_Int plAs_Int alen_Int noShs_Int leafAs_Int
def zeroInt : AV := .int .i64 0
end Go.Proofs.YtffpfjnakhpheaaDoor
