/- Contracts of the law's helpers: the text of a mark. -/
import Derived.Test.YtffpfjnakhpheaaDoorKA
namespace Go.Proofs.YtffpfjnakhpheaaDoor
open Go Go.RowKit Go.Bv
set_option linter.unusedSimpArgs false
set_option linter.unusedVariables false
set_option maxRecDepth 4000
end Go.Proofs.YtffpfjnakhpheaaDoor
