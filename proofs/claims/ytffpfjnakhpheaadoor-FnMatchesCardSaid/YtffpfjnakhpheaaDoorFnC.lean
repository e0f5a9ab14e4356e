/- Contracts: terms. -/
import Derived.Test.YtffpfjnakhpheaaDoorKA
namespace Go.Proofs.YtffpfjnakhpheaaDoor
open Go Go.RowKit Go.Bv
set_option linter.unusedSimpArgs false
set_option linter.unusedVariables false
set_option maxRecDepth 4000

/-- The empty text. -/
def isE (s : ByteArray) : Bool := s.toList == ByteArray.toList { data := #[] }
/-- How many a right term takes; -1: it is none. -/
def takesS (o n : Int) (s : ByteArray) : Int :=
  if (o = 1 ∨ o = 2 ∨ o = 3) ∧ (n == 0 && isE s) = true then 0
  else if o = 4 ∧ (isE s && (decide (n ≥ -999999999) && decide (n ≤ 999999999))) = true then 0
  else if o = 5 ∧ (isE s && (decide (n ≥ 1) && decide (n ≤ 999999999))) = true then 0
  else if (o = 6 ∨ o = 7) ∧ (n == 0 && partB s) = true then 0
  else if o = 8 ∧ (n == 0 && isE s) = true then 1
  else if (o = 9 ∨ o = 10) ∧ (n == 0 && isE s) = true then 2
  else -1
theorem opCases (o : Int) : o = 1 ∨ o = 2 ∨ o = 3 ∨ o = 4 ∨ o = 5 ∨ o = 6 ∨ o = 7 ∨ o = 8 ∨ o = 9 ∨ o = 10 ∨ ((o == 1) = false ∧ (o == 2) = false ∧ (o == 3) = false ∧ (o == 4) = false ∧ (o == 5) = false ∧ (o == 6) = false ∧ (o == 7) = false ∧ (o == 8) = false ∧ (o == 9) = false ∧ (o == 10) = false) := by
  simp only [beq_eq_false_iff_ne]
  omega
/-- A term that is right. -/
def termB (o n : Int) (s : ByteArray) : Bool :=
  if o = 1 ∨ o = 2 ∨ o = 3 ∨ o = 8 ∨ o = 9 ∨ o = 10 then n == 0 && isE s
  else if o = 4 then (decide (n ≥ -999999999) && decide (n ≤ 999999999)) && isE s
  else if o = 5 then (decide (n ≥ 1) && decide (n ≤ 999999999)) && isE s
  else if o = 6 ∨ o = 7 then n == 0 && partB s
  else false
end Go.Proofs.YtffpfjnakhpheaaDoor
