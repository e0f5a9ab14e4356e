/- What the rows of the laws share: the program's own facts, the types of the parameters. The parameters of type Int. The parameters of type Msg. The parameters of type Cell. The parameters of type Change. -/
import Derived.Test.YtbeijohahflkeaaBvLa
import Derived.Test.YtbeijohahflkeaaRows
import Derived.Test.YtbeijohahflkeaaKG
import Derived.Test.YtbeijohahflkeaaKM
namespace Go.Proofs.Ytbeijohahflkeaa
open Go Go.RowKit Go.Bv
set_option linter.unusedSimpArgs false
set_option linter.unusedVariables false
set_option maxRecDepth 4000
theorem own : ownKnob Try.prog.godebug = none := by kernel_rfl
theorem laidOut : laidOutB Try.prog = true := by kernel_rfl
theorem gw : ∀ w : World, w.ShapedOpen Try.prog → GW Try.prog w [] := gw_of Try.underlying3 (by kernel_rfl)
theorem reach_lt {n : Nat} (h : n ≤ reachBytes) : n < 4611686018427387904 := Nat.lt_of_le_of_lt h (by decide)
theorem ty_Int {x : AV} (h : Ty Try.prog 3 x) : ∃ v : Int, x = encInt v ∧ okInt v := by
  obtain ⟨a, rfl, _⟩ := ty_int Try.underlying3 h
  exact ⟨a, rfl, trivial⟩
theorem ty_Bool {x : AV} (h : Ty Try.prog 4 x) : ∃ v : Bool, x = encBool v ∧ okBool v := by
  obtain ⟨a, rfl⟩ := ty_bool Try.underlying4 h
  exact ⟨a, rfl, trivial⟩
theorem ty_String {x : AV} (h : Ty Try.prog 9 x) : ∃ v : ByteArray, x = encString v ∧ okString v := by
  obtain ⟨a, rfl, hs⟩ := ty_str Try.underlying9 h
  exact ⟨a, rfl, reach_lt hs⟩
end Go.Proofs.Ytbeijohahflkeaa
namespace Go.Proofs.Ytbeijohahflkeaa
open Go Go.RowKit Go.Bv
set_option linter.unusedSimpArgs false
set_option linter.unusedVariables false
set_option maxRecDepth 4000
theorem ty_IntS {x : AV} (h : Ty Try.prog 24 x) : ∃ f : List Int, x = .lst false 1 (f.map encInt) ∧ okIntS f := by
  obtain ⟨xs, rfl, hl, hx⟩ := ty_lst Try.underlying24 h
  obtain ⟨f, rfl, hf⟩ := list_map_of (Q := okInt) encInt xs (fun y hy => ty_Int (hx y hy))
  have hc : Try.prog.cellsOf 3 = 1 := by kernel_rfl
  exact ⟨f, by rw [hc], reach_lt (by simpa using hl), hf⟩
end Go.Proofs.Ytbeijohahflkeaa
namespace Go.Proofs.Ytbeijohahflkeaa
open Go Go.RowKit Go.Bv
set_option linter.unusedSimpArgs false
set_option linter.unusedVariables false
set_option maxRecDepth 4000
theorem ty_Msg {x : AV} (h : Ty Try.prog 23 x) : ∃ v : MsgV, x = encMsg false v ∧ okMsg v := by
  obtain ⟨xs, rfl, hl, hx⟩ := ty_agg Try.underlying23 h
  match xs, hl with
  | [x0, x1, x2], _ =>
    obtain ⟨a0, rfl, h0⟩ := ty_Int (hx 0 _ x0 rfl rfl)
    obtain ⟨a1, rfl, h1⟩ := ty_Int (hx 1 _ x1 rfl rfl)
    obtain ⟨a2, rfl, h2⟩ := ty_String (hx 2 _ x2 rfl rfl)
    exact ⟨⟨a0, a1, a2⟩, rfl, h2⟩
end Go.Proofs.Ytbeijohahflkeaa
namespace Go.Proofs.Ytbeijohahflkeaa
open Go Go.RowKit Go.Bv
set_option linter.unusedSimpArgs false
set_option linter.unusedVariables false
set_option maxRecDepth 4000
theorem ty_Cell {x : AV} (h : Ty Try.prog 26 x) : ∃ v : CellV, x = encCell false v ∧ okCell v := by
  obtain ⟨xs, rfl, hl, hx⟩ := ty_agg Try.underlying26 h
  match xs, hl with
  | [x0, x1, x2, x3, x4], _ =>
    obtain ⟨a0, rfl, h0⟩ := ty_Msg (hx 0 _ x0 rfl rfl)
    obtain ⟨a1, rfl, h1⟩ := ty_Int (hx 1 _ x1 rfl rfl)
    obtain ⟨a2, rfl, h2⟩ := ty_Bool (hx 2 _ x2 rfl rfl)
    obtain ⟨a3, rfl, h3⟩ := ty_IntS (hx 3 _ x3 rfl rfl)
    obtain ⟨a4, rfl, h4⟩ := ty_IntS (hx 4 _ x4 rfl rfl)
    exact ⟨⟨a0, a1, a2, a3, a4⟩, rfl, ⟨h0, h3, h4⟩⟩
end Go.Proofs.Ytbeijohahflkeaa
namespace Go.Proofs.Ytbeijohahflkeaa
open Go Go.RowKit Go.Bv
set_option linter.unusedSimpArgs false
set_option linter.unusedVariables false
set_option maxRecDepth 4000
theorem ty_Change {x : AV} (h : Ty Try.prog 28 x) : ∃ v : ChangeV, x = encChange false v ∧ okChange v := by
  obtain ⟨xs, rfl, hl, hx⟩ := ty_agg Try.underlying28 h
  match xs, hl with
  | [x0, x1], _ =>
    obtain ⟨a0, rfl, h0⟩ := ty_Int (hx 0 _ x0 rfl rfl)
    obtain ⟨a1, rfl, h1⟩ := ty_Msg (hx 1 _ x1 rfl rfl)
    exact ⟨⟨a0, a1⟩, rfl, h1⟩
end Go.Proofs.Ytbeijohahflkeaa
