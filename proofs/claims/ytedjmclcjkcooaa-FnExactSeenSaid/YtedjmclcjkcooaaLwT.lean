/- What the rows of the laws share: the program's own facts, the types of the parameters. -/
import Derived.Test.YtedjmclcjkcooaaBvLa
import Derived.Test.YtedjmclcjkcooaaRows
import Derived.Test.YtedjmclcjkcooaaGlInt
import Derived.Test.YtedjmclcjkcooaaGlBool
import Derived.Test.YtedjmclcjkcooaaGlString
namespace Go.Proofs.Ytedjmclcjkcooaa
open Go Go.RowKit Go.Bv
set_option linter.unusedSimpArgs false
set_option linter.unusedVariables false
theorem own : ownKnob Try.prog.godebug = none := by kernel_rfl
theorem laidOut : laidOutB Try.prog = true := by kernel_rfl
theorem gw : ∀ w : World, w.ShapedOpen Try.prog → GW Try.prog w [] := gw_of Try.underlying3 (by kernel_rfl)
theorem reach_lt {n : Nat} (h : n ≤ reachBytes) : n < 4611686018427387904 := Nat.lt_of_le_of_lt h (by decide)
theorem ty_Int {x : AV} (h : Ty Try.prog 3 x) : ∃ v : Int, x = encInt v ∧ okInt v := by
  obtain ⟨a, rfl, _⟩ := ty_int Try.underlying3 h
  exact ⟨a, rfl, trivial⟩
theorem ty_Bool {x : AV} (h : Ty Try.prog 4 x) : ∃ v : Bool, x = encBool v ∧ okBool v := by
  obtain ⟨a, rfl⟩ := ty_bool Try.underlying4 h
  exact ⟨a, rfl, trivial⟩
theorem ty_String {x : AV} (h : Ty Try.prog 9 x) : ∃ v : ByteArray, x = encString v ∧ okString v := by
  obtain ⟨a, rfl, hs⟩ := ty_str Try.underlying9 h
  exact ⟨a, rfl, reach_lt hs⟩
end Go.Proofs.Ytedjmclcjkcooaa
