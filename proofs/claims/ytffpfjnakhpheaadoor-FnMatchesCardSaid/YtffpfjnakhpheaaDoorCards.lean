/-
  DERIVED. GIVEN WITH THE SEED: THE CARDS: each row of YtffpfjnakhpheaaDoorRows.lean that lists a variable, with what it lists TIED to the program's text (the seventh form; the later family's looks); each row that meets fmt, with fmt's text TOLD by the authors' own Lean function (tested against real Go, not proved from fmt's source: count such statements apart). THE CARD IS WHAT COUNTS. Prove the row's statement (the work); the ties are given (YtffpfjnakhpheaaDoorTie.lean); close each card by the builder's one call (the guide's Derived/Test/ToyasCard.lean, 'card_holds'). Laid BY PROGRAM, IN A SANDBOX (cutbox-door.mjs). By AI agents, Wed Nov 11 2026. No macro, syntax, notation, axiom, sorry.
-/
import Derived.Test.YtffpfjnakhpheaaDoorRows
import GoSem.ClaimSeven
namespace Go.Proofs.YtffpfjnakhpheaaDoor
namespace Rows

/-- THE TIED CARD OF 'laws.FnMatches'. -/
def fnMatchesCard : Claim7 := { stood := { row := fnMatchesRow, standIns := [], harness := (true, "6d8f6f26f87609720e84f0e04e955ff64ffcf94d7eaeb19c269df1c0c9a9d0d5"), looks := false }, kinds := [], alts := [], laidByText := true, laidKinds := [.data, .pinned], laidTests := true, laidLooks := .later }
def FnMatchesCardSaid : Prop := Claim7.holds Tryd.pinned (.plain (OpenSpec.ofChange fnMatchesSpec)) fnMatchesCard

/-- THE TIED CARD OF 'laws.FnExactMatches'. -/
def fnExactMatchesCard : Claim7 := { stood := { row := fnExactMatchesRow, standIns := [], harness := (true, "6d8f6f26f87609720e84f0e04e955ff64ffcf94d7eaeb19c269df1c0c9a9d0d5"), looks := false }, kinds := [], alts := [], laidByText := true, laidKinds := [.data, .pinned], laidTests := true, laidLooks := .later }
def FnExactMatchesCardSaid : Prop := Claim7.holds Tryd.pinned (.plain (OpenSpec.ofChange fnExactMatchesSpec)) fnExactMatchesCard

/-- THE SECOND FORM's CARD OF 'laws.FnMatches'. -/
def fnMatchesUptoCard : Claim7 := { stood := { row := fnMatchesUptoRow, standIns := [], harness := (true, "6d8f6f26f87609720e84f0e04e955ff64ffcf94d7eaeb19c269df1c0c9a9d0d5"), looks := false }, kinds := [], alts := [], laidByText := true, laidKinds := [.data, .pinned], laidTests := true, laidLooks := .later }
def FnMatchesUptoCardSaid : Prop := Claim7.holds Tryd.pinned (.plain (OpenSpec.upto fnMatchesSpec)) fnMatchesUptoCard

/-- THE SECOND FORM's CARD OF 'laws.FnExactMatches'. -/
def fnExactMatchesUptoCard : Claim7 := { stood := { row := fnExactMatchesUptoRow, standIns := [], harness := (true, "6d8f6f26f87609720e84f0e04e955ff64ffcf94d7eaeb19c269df1c0c9a9d0d5"), looks := false }, kinds := [], alts := [], laidByText := true, laidKinds := [.data, .pinned], laidTests := true, laidLooks := .later }
def FnExactMatchesUptoCardSaid : Prop := Claim7.holds Tryd.pinned (.plain (OpenSpec.upto fnExactMatchesSpec)) fnExactMatchesUptoCard
end Rows
end Go.Proofs.YtffpfjnakhpheaaDoor
