/- Paths that are not the same. -/
import Derived.Test.YtlgdijjkegeccaaFnTl
namespace Go.Proofs.Ytlgdijjkegeccaa
open Go Go.RowKit Go.Bv
set_option linter.unusedSimpArgs false
set_option linter.unusedVariables false
set_option maxRecDepth 4000
theorem path_ne1 {a b c : Nat} {l : List Nat} : ([a] = b :: c :: l) = False := by simp
theorem path_ne2 {a b c : Nat} {l : List Nat} : (b :: c :: l = [a]) = False := by simp
attribute [go_sem] path_ne1 path_ne2
end Go.Proofs.Ytlgdijjkegeccaa
