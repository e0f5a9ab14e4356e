/-
  DERIVED. GIVEN WITH THE SEED: THE CARDS: each row of YtkfnhoblcfgamaaDoorRows.lean that lists a variable, with what it lists TIED to the program's text (the seventh form; the later family's looks); each row that meets fmt, with fmt's text TOLD by the authors' own Lean function (tested against real Go, not proved from fmt's source: count such statements apart). THE CARD IS WHAT COUNTS. Prove the row's statement (the work); the ties are given (YtkfnhoblcfgamaaDoorTie.lean); close each card by the builder's one call (the guide's Derived/Test/ToyasCard.lean, 'card_holds'). Laid BY PROGRAM, IN A SANDBOX (cutbox-door.mjs). By AI agents, Wed Nov 11 2026. No macro, syntax, notation, axiom, sorry.
-/
import Derived.Test.YtkfnhoblcfgamaaDoorRows
import GoSem.ClaimSeven
namespace Go.Proofs.YtkfnhoblcfgamaaDoor
namespace Rows

/-- THE TIED CARD OF 'laws.FnExactPatternOk'. -/
def fnExactPatternOkCard : Claim7 := { stood := { row := fnExactPatternOkRow, standIns := [], harness := (true, "7214ee02c2f9b6b0d42b9ed0ffac32bcf368616e99dc256f690e6714f48af2ad"), looks := false }, kinds := [], alts := [], laidByText := true, laidKinds := [.data, .pinned], laidTests := true, laidLooks := .later }
def FnExactPatternOkCardSaid : Prop := Claim7.holds Tryd.pinned (.plain (OpenSpec.ofChange fnExactPatternOkSpec)) fnExactPatternOkCard

/-- THE TIED CARD OF 'laws.FnExactNameOk'. -/
def fnExactNameOkCard : Claim7 := { stood := { row := fnExactNameOkRow, standIns := [], harness := (true, "7214ee02c2f9b6b0d42b9ed0ffac32bcf368616e99dc256f690e6714f48af2ad"), looks := false }, kinds := [], alts := [], laidByText := true, laidKinds := [.data, .pinned], laidTests := true, laidLooks := .later }
def FnExactNameOkCardSaid : Prop := Claim7.holds Tryd.pinned (.plain (OpenSpec.ofChange fnExactNameOkSpec)) fnExactNameOkCard

/-- THE TIED CARD OF 'laws.FnExactMatches'. -/
def fnExactMatchesCard : Claim7 := { stood := { row := fnExactMatchesRow, standIns := [], harness := (true, "7214ee02c2f9b6b0d42b9ed0ffac32bcf368616e99dc256f690e6714f48af2ad"), looks := false }, kinds := [], alts := [], laidByText := true, laidKinds := [.data, .pinned], laidTests := true, laidLooks := .later }
def FnExactMatchesCardSaid : Prop := Claim7.holds Tryd.pinned (.plain (OpenSpec.ofChange fnExactMatchesSpec)) fnExactMatchesCard

/-- THE SECOND FORM's CARD OF 'laws.FnExactPatternOk'. -/
def fnExactPatternOkUptoCard : Claim7 := { stood := { row := fnExactPatternOkUptoRow, standIns := [], harness := (true, "7214ee02c2f9b6b0d42b9ed0ffac32bcf368616e99dc256f690e6714f48af2ad"), looks := false }, kinds := [], alts := [], laidByText := true, laidKinds := [.data, .pinned], laidTests := true, laidLooks := .later }
def FnExactPatternOkUptoCardSaid : Prop := Claim7.holds Tryd.pinned (.plain (OpenSpec.upto fnExactPatternOkSpec)) fnExactPatternOkUptoCard

/-- THE SECOND FORM's CARD OF 'laws.FnExactNameOk'. -/
def fnExactNameOkUptoCard : Claim7 := { stood := { row := fnExactNameOkUptoRow, standIns := [], harness := (true, "7214ee02c2f9b6b0d42b9ed0ffac32bcf368616e99dc256f690e6714f48af2ad"), looks := false }, kinds := [], alts := [], laidByText := true, laidKinds := [.data, .pinned], laidTests := true, laidLooks := .later }
def FnExactNameOkUptoCardSaid : Prop := Claim7.holds Tryd.pinned (.plain (OpenSpec.upto fnExactNameOkSpec)) fnExactNameOkUptoCard

/-- THE SECOND FORM's CARD OF 'laws.FnExactMatches'. -/
def fnExactMatchesUptoCard : Claim7 := { stood := { row := fnExactMatchesUptoRow, standIns := [], harness := (true, "7214ee02c2f9b6b0d42b9ed0ffac32bcf368616e99dc256f690e6714f48af2ad"), looks := false }, kinds := [], alts := [], laidByText := true, laidKinds := [.data, .pinned], laidTests := true, laidLooks := .later }
def FnExactMatchesUptoCardSaid : Prop := Claim7.holds Tryd.pinned (.plain (OpenSpec.upto fnExactMatchesSpec)) fnExactMatchesUptoCard
end Rows
end Go.Proofs.YtkfnhoblcfgamaaDoor
