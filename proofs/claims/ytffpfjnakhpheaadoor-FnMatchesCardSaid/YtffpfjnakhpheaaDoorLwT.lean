/- What the rows of the laws share: the program's own facts, the types of the parameters. -/
import Derived.Test.YtffpfjnakhpheaaDoorBvLa
import Derived.Test.YtffpfjnakhpheaaDoorRows
import Derived.Test.YtffpfjnakhpheaaDoorGlInt
import Derived.Test.YtffpfjnakhpheaaDoorGlBool
import Derived.Test.YtffpfjnakhpheaaDoorGlString
namespace Go.Proofs.YtffpfjnakhpheaaDoor
open Go Go.RowKit Go.Bv
set_option linter.unusedSimpArgs false
set_option linter.unusedVariables false
set_option maxRecDepth 4000
theorem own : ownKnob Tryd.prog.godebug = none := by kernel_rfl
theorem laidOut : laidOutB Tryd.prog = true := by kernel_rfl
theorem gw : ∀ w : World, w.ShapedOpen Tryd.prog → GW Tryd.prog w [] := gw_of Tryd.underlying3 (by kernel_rfl)
theorem reach_lt {n : Nat} (h : n ≤ reachBytes) : n < 4611686018427387904 := Nat.lt_of_le_of_lt h (by decide)
theorem ty_Int {x : AV} (h : Ty Tryd.prog 3 x) : ∃ v : Int, x = encInt v ∧ okInt v := by
  obtain ⟨a, rfl, _⟩ := ty_int Tryd.underlying3 h
  exact ⟨a, rfl, trivial⟩
theorem ty_Bool {x : AV} (h : Ty Tryd.prog 4 x) : ∃ v : Bool, x = encBool v ∧ okBool v := by
  obtain ⟨a, rfl⟩ := ty_bool Tryd.underlying4 h
  exact ⟨a, rfl, trivial⟩
theorem ty_String {x : AV} (h : Ty Tryd.prog 9 x) : ∃ v : ByteArray, x = encString v ∧ okString v := by
  obtain ⟨a, rfl, hs⟩ := ty_str Tryd.underlying9 h
  exact ⟨a, rfl, reach_lt hs⟩
end Go.Proofs.YtffpfjnakhpheaaDoor
