/- What the rows of the laws share: the program's own facts, the types of the parameters. The parameters of type Int. The parameters of type Msg. The parameters of type Term. The parameters of type Sub. The parameters of type Ring. -/
import Derived.Test.YtlgdijjkegeccaaGreatBvLa
import Derived.Test.YtlgdijjkegeccaaGreatRows
import Derived.Test.YtlgdijjkegeccaaGreatKG
import Derived.Test.YtlgdijjkegeccaaGreatKM
import Derived.Test.YtlgdijjkegeccaaGreatKT
import Derived.Test.YtlgdijjkegeccaaGreatKS
import Derived.Test.YtlgdijjkegeccaaGreatGlRing
namespace Go.Proofs.YtlgdijjkegeccaaGreat
open Go Go.RowKit Go.Bv
set_option linter.unusedSimpArgs false
set_option linter.unusedVariables false
set_option maxRecDepth 4000
theorem own : ownKnob Tryz.prog.godebug = none := by kernel_rfl
theorem laidOut : laidOutB Tryz.prog = true := by kernel_rfl
theorem gw : ∀ w : World, w.ShapedOpen Tryz.prog → GW Tryz.prog w [] := gw_of Tryz.underlying3 (by kernel_rfl)
theorem reach_lt {n : Nat} (h : n ≤ reachBytes) : n < 4611686018427387904 := Nat.lt_of_le_of_lt h (by decide)
theorem ty_Int {x : AV} (h : Ty Tryz.prog 3 x) : ∃ v : Int, x = encInt v ∧ okInt v := by
  obtain ⟨a, rfl, _⟩ := ty_int Tryz.underlying3 h
  exact ⟨a, rfl, trivial⟩
theorem ty_Bool {x : AV} (h : Ty Tryz.prog 4 x) : ∃ v : Bool, x = encBool v ∧ okBool v := by
  obtain ⟨a, rfl⟩ := ty_bool Tryz.underlying4 h
  exact ⟨a, rfl, trivial⟩
theorem ty_String {x : AV} (h : Ty Tryz.prog 9 x) : ∃ v : ByteArray, x = encString v ∧ okString v := by
  obtain ⟨a, rfl, hs⟩ := ty_str Tryz.underlying9 h
  exact ⟨a, rfl, reach_lt hs⟩
end Go.Proofs.YtlgdijjkegeccaaGreat
namespace Go.Proofs.YtlgdijjkegeccaaGreat
open Go Go.RowKit Go.Bv
set_option linter.unusedSimpArgs false
set_option linter.unusedVariables false
set_option maxRecDepth 4000
theorem ty_IntS {x : AV} (h : Ty Tryz.prog 24 x) : ∃ f : List Int, x = .lst false 1 (f.map encInt) ∧ okIntS f := by
  obtain ⟨xs, rfl, hl, hx⟩ := ty_lst Tryz.underlying24 h
  obtain ⟨f, rfl, hf⟩ := list_map_of (Q := okInt) encInt xs (fun y hy => ty_Int (hx y hy))
  have hc : Tryz.prog.cellsOf 3 = 1 := by kernel_rfl
  exact ⟨f, by rw [hc], reach_lt (by simpa using hl), hf⟩
end Go.Proofs.YtlgdijjkegeccaaGreat
namespace Go.Proofs.YtlgdijjkegeccaaGreat
open Go Go.RowKit Go.Bv
set_option linter.unusedSimpArgs false
set_option linter.unusedVariables false
set_option maxRecDepth 4000
theorem ty_Msg {x : AV} (h : Ty Tryz.prog 62 x) : ∃ v : MsgV, x = encMsg false v ∧ okMsg v := by
  obtain ⟨xs, rfl, hl, hx⟩ := ty_agg Tryz.underlying62 h
  match xs, hl with
  | [x0, x1, x2], _ =>
    obtain ⟨a0, rfl, h0⟩ := ty_Int (hx 0 _ x0 rfl rfl)
    obtain ⟨a1, rfl, h1⟩ := ty_Int (hx 1 _ x1 rfl rfl)
    obtain ⟨a2, rfl, h2⟩ := ty_String (hx 2 _ x2 rfl rfl)
    exact ⟨⟨a0, a1, a2⟩, rfl, h2⟩
theorem ty_MsgS {x : AV} (h : Ty Tryz.prog 22 x) : ∃ f : List MsgV, x = .lst false 3 (f.map (encMsg false)) ∧ okMsgS f := by
  obtain ⟨xs, rfl, hl, hx⟩ := ty_lst Tryz.underlying22 h
  obtain ⟨f, rfl, hf⟩ := list_map_of (Q := okMsg) (encMsg false) xs (fun y hy => ty_Msg (hx y hy))
  have hc : Tryz.prog.cellsOf 62 = 3 := by kernel_rfl
  exact ⟨f, by rw [hc], reach_lt (by simpa using hl), hf⟩
end Go.Proofs.YtlgdijjkegeccaaGreat
namespace Go.Proofs.YtlgdijjkegeccaaGreat
open Go Go.RowKit Go.Bv
set_option linter.unusedSimpArgs false
set_option linter.unusedVariables false
set_option maxRecDepth 4000
theorem ty_Term {x : AV} (h : Ty Tryz.prog 100 x) : ∃ v : TermV, x = encT v ∧ okTerm v := by
  obtain ⟨xs, rfl, hl, hx⟩ := ty_agg Tryz.underlying100 h
  match xs, hl with
  | [x0, x1, x2], _ =>
    obtain ⟨a0, rfl, h0⟩ := ty_Int (hx 0 _ x0 rfl rfl)
    obtain ⟨a1, rfl, h1⟩ := ty_Int (hx 1 _ x1 rfl rfl)
    obtain ⟨a2, rfl, h2⟩ := ty_String (hx 2 _ x2 rfl rfl)
    exact ⟨⟨a0, a1, a2⟩, rfl, h2⟩
theorem ty_TermS {x : AV} (h : Ty Tryz.prog 64 x) : ∃ f : List TermV, x = .lst false 3 (f.map encT) ∧ okTermS f := by
  obtain ⟨xs, rfl, hl, hx⟩ := ty_lst Tryz.underlying64 h
  obtain ⟨f, rfl, hf⟩ := list_map_of (Q := okTerm) encT xs (fun y hy => ty_Term (hx y hy))
  have hc : Tryz.prog.cellsOf 100 = 3 := by kernel_rfl
  exact ⟨f, by rw [hc], reach_lt (by simpa using hl), hf⟩
end Go.Proofs.YtlgdijjkegeccaaGreat
namespace Go.Proofs.YtlgdijjkegeccaaGreat
open Go Go.RowKit Go.Bv
set_option linter.unusedSimpArgs false
set_option linter.unusedVariables false
set_option maxRecDepth 4000
theorem ty_Sub {x : AV} (h : Ty Tryz.prog 66 x) : ∃ v : SubV, x = encSub false v ∧ okSub v := by
  obtain ⟨xs, rfl, hl, hx⟩ := ty_agg Tryz.underlying66 h
  match xs, hl with
  | [x0, x1, x2, x3, x4, x5, x6], _ =>
    obtain ⟨a0, rfl, h0⟩ := ty_Int (hx 0 _ x0 rfl rfl)
    obtain ⟨a1, rfl, h1⟩ := ty_Int (hx 1 _ x1 rfl rfl)
    obtain ⟨a2, rfl, h2⟩ := ty_Int (hx 2 _ x2 rfl rfl)
    obtain ⟨a3, rfl, h3⟩ := ty_Int (hx 3 _ x3 rfl rfl)
    obtain ⟨a4, rfl, h4⟩ := ty_Int (hx 4 _ x4 rfl rfl)
    obtain ⟨a5, rfl, h5⟩ := ty_Int (hx 5 _ x5 rfl rfl)
    obtain ⟨a6, rfl, h6⟩ := ty_TermS (hx 6 _ x6 rfl rfl)
    exact ⟨⟨a0, a1, a2, a3, a4, a5, a6⟩, rfl, h6⟩
theorem ty_SubS {x : AV} (h : Ty Tryz.prog 23 x) : ∃ f : List SubV, x = .lst false 7 (f.map (encSub false)) ∧ okSubS f := by
  obtain ⟨xs, rfl, hl, hx⟩ := ty_lst Tryz.underlying23 h
  obtain ⟨f, rfl, hf⟩ := list_map_of (Q := okSub) (encSub false) xs (fun y hy => ty_Sub (hx y hy))
  have hc : Tryz.prog.cellsOf 66 = 7 := by kernel_rfl
  exact ⟨f, by rw [hc], reach_lt (by simpa using hl), hf⟩
end Go.Proofs.YtlgdijjkegeccaaGreat
namespace Go.Proofs.YtlgdijjkegeccaaGreat
open Go Go.RowKit Go.Bv
set_option linter.unusedSimpArgs false
set_option linter.unusedVariables false
set_option maxRecDepth 4000
theorem ty_Ring {x : AV} (h : Ty Tryz.prog 26 x) : ∃ v : RingV, x = encRing false v ∧ okRing v := by
  obtain ⟨xs, rfl, hl, hx⟩ := ty_agg Tryz.underlying26 h
  match xs, hl with
  | [x0, x1, x2, x3, x4, x5, x6, x7], _ =>
    obtain ⟨a0, rfl, h0⟩ := ty_Int (hx 0 _ x0 rfl rfl)
    obtain ⟨a1, rfl, h1⟩ := ty_Int (hx 1 _ x1 rfl rfl)
    obtain ⟨a2, rfl, h2⟩ := ty_MsgS (hx 2 _ x2 rfl rfl)
    obtain ⟨a3, rfl, h3⟩ := ty_Int (hx 3 _ x3 rfl rfl)
    obtain ⟨a4, rfl, h4⟩ := ty_SubS (hx 4 _ x4 rfl rfl)
    obtain ⟨a5, rfl, h5⟩ := ty_IntS (hx 5 _ x5 rfl rfl)
    obtain ⟨a6, rfl, h6⟩ := ty_IntS (hx 6 _ x6 rfl rfl)
    obtain ⟨a7, rfl, h7⟩ := ty_Bool (hx 7 _ x7 rfl rfl)
    exact ⟨⟨a0, a1, a2, a3, a4, a5, a6, a7⟩, rfl, ⟨h2, h4, h5, h6⟩⟩
end Go.Proofs.YtlgdijjkegeccaaGreat
