/- Contracts: terms. -/
import Derived.Test.YtlgdijjkegeccaaGreatKA
namespace Go.Proofs.YtlgdijjkegeccaaGreat
open Go Go.RowKit Go.Bv
set_option linter.unusedSimpArgs false
set_option linter.unusedVariables false
set_option maxRecDepth 4000

/-- The empty text. -/
def isE (s : ByteArray) : Bool := s.toList == ByteArray.toList { data := #[] }
/-- How many a right term takes; -1: it is none. -/
def takesS (o n : Int) (s : ByteArray) : Int :=
  if (o = 1 ∨ o = 2 ∨ o = 3) ∧ (n == 0 && isE s) = true then 0
  else if o = 4 ∧ (isE s && (decide (n ≥ -999999999) && decide (n ≤ 999999999))) = true then 0
  else if o = 5 ∧ (isE s && (decide (n ≥ 1) && decide (n ≤ 999999999))) = true then 0
  else if (o = 6 ∨ o = 7) ∧ (n == 0 && partB s) = true then 0
  else if o = 8 ∧ (n == 0 && isE s) = true then 1
  else if (o = 9 ∨ o = 10) ∧ (n == 0 && isE s) = true then 2
  else -1
theorem opCases (o : Int) : o = 1 ∨ o = 2 ∨ o = 3 ∨ o = 4 ∨ o = 5 ∨ o = 6 ∨ o = 7 ∨ o = 8 ∨ o = 9 ∨ o = 10 ∨ ((o == 1) = false ∧ (o == 2) = false ∧ (o == 3) = false ∧ (o == 4) = false ∧ (o == 5) = false ∧ (o == 6) = false ∧ (o == 7) = false ∧ (o == 8) = false ∧ (o == 9) = false ∧ (o == 10) = false) := by
  simp only [beq_eq_false_iff_ne]
  omega
set_option maxHeartbeats 1000000 in
theorem c_spec_l8Takes (o n : Int) (s : ByteArray) (hs : s.size < 4611686018427387904) : Sound P 84 [.agg [.int .i64 o, .int .i64 n, .str s]] (.int .i64 (takesS o n s)) := by
  refine snd_b hT Tryz.func84 Tryz.results84 Tryz.ntmps84 ?_
  have he : (s.toList == ByteArray.toList { data := #[] }) = isE s := rfl
  rcases opCases o with rfl | rfl | rfl | rfl | rfl | rfl | rfl | rfl | rfl | rfl | ⟨h1, h2, h3, h4, h5, h6, h7, h8, h9, h10⟩
  repeat' (first | refine one ?_ | (refine two ?_ ?_; all_goals (intro h; try simp only [Bool.not_eq_true', Bool.not_eq_false', reduceCtorEq] at h)) | fail)
  all_goals ((simp only [go_sem, *]); clear he; simp_all [takesS])
noncomputable abbrev ic_spec_l8Takes := Con.mk (P := P) (f := 84) Tryz.call84 @c_spec_l8Takes
attribute [instance] ic_spec_l8Takes
/-- A term that is right. -/
def termB (o n : Int) (s : ByteArray) : Bool :=
  if o = 1 ∨ o = 2 ∨ o = 3 ∨ o = 8 ∨ o = 9 ∨ o = 10 then n == 0 && isE s
  else if o = 4 then (decide (n ≥ -999999999) && decide (n ≤ 999999999)) && isE s
  else if o = 5 then (decide (n ≥ 1) && decide (n ≤ 999999999)) && isE s
  else if o = 6 ∨ o = 7 then n == 0 && partB s
  else false
set_option maxHeartbeats 1000000 in
theorem c_impl_termOk (o n : Int) (s : ByteArray) (hs : s.size < 4611686018427387904) : Sound P 87 [.agg [.int .i64 o, .int .i64 n, .str s]] (.bool (termB o n s)) := by
  refine snd_b hT Tryz.func87 Tryz.results87 Tryz.ntmps87 ?_
  have he : (s.toList == ByteArray.toList { data := #[] }) = isE s := rfl
  rcases opCases o with rfl | rfl | rfl | rfl | rfl | rfl | rfl | rfl | rfl | rfl | ⟨h1, h2, h3, h4, h5, h6, h7, h8, h9, h10⟩
  repeat' (first | refine one ?_ | (refine two ?_ ?_; all_goals (intro h; try simp only [Bool.not_eq_true', Bool.not_eq_false', reduceCtorEq] at h)) | fail)
  all_goals ((simp only [go_sem, *]); clear he; simp_all [termB]; try (intro a b; have := h a; omega))
noncomputable abbrev ic_impl_termOk := Con.mk (P := P) (f := 87) Tryz.call87 @c_impl_termOk
attribute [instance] ic_impl_termOk
end Go.Proofs.YtlgdijjkegeccaaGreat
