/- Steps of regions that take a call's results apart in any order. Generic: no program. -/
import Derived.Test.YtbeijohahflkeaaBvM5
namespace Go.Bv
open Go Go.RowKit
set_option linter.unusedSimpArgs false
set_option linter.unusedVariables false
theorem updV_v (b : Bool) (x y : AV) : updV b (.v x) y = bif b then x else y := rfl
theorem updV_h (b : Bool) (i : Nat) (xs : List AV) : updV b (.h i) (.tup xs) = .tup (hset b i xs) := rfl
section
variable {P : Program} {Γ : Tab} {S S' S1 S'' : List AV} {ops : Array Oper} {l : List Oper} {o : Oper} {N : List AV → Prop}
theorem st_oU {A : List (List Nat)} {F : (Nat → Bool) → List AV} {k : Nat} (ds : List Nat) (h2 : Steps P ops A F (k + 1) l)
    (h1 : ∀ D, D k = false → allT D ((A[k]?).getD []) → allF D ds → AS P ops o (F D) (F (also D k)) := by
      intro D hk hd hf
      try simp only [go_sem, allT, Option.getD_some] at hd
      try simp only [go_sem, allF] at hf
      simp only [fillW, putIfs, putIf, fillU, putU, updAt, updV_v, updV_h, updV_f, hset, cond_true, also, Nat.reduceBEq, cond_false, Nat.reduceAdd, hd, hk, hf]
      first | exact as_k | exact as_t | fail)
    (hds : (ds.all fun j => ((A[j]?).getD []).contains k) = true := by decide +kernel) : Steps P ops A F k (o :: l) := steps_cons2 ds hds h1 h2
/-- The same, with j done or not. -/
theorem st_oUC {A : List (List Nat)} {F : (Nat → Bool) → List AV} {k : Nat} (j : Nat) (ds : List Nat) (h2 : Steps P ops A F (k + 1) l)
    (h1 : ∀ D, (D j = false ∨ D j = true) → D k = false → allT D ((A[k]?).getD []) → allF D ds → AS P ops o (F D) (F (also D k)) := by
      rintro D (hj | hj) hk hd hf
      all_goals (
        try simp only [go_sem, allT, Option.getD_some, hj] at hd
        try simp only [go_sem, allF] at hf
        simp only [fillW, putIfs, putIf, fillU, putU, updAt, updV_v, updV_h, updV_f, hset, cond_true, also, Nat.reduceBEq, cond_false, Nat.reduceAdd, hd, hk, hf, hj]
        first | exact as_k | exact as_t | fail))
    (hds : (ds.all fun j => ((A[j]?).getD []).contains k) = true := by decide +kernel) : Steps P ops A F k (o :: l) := steps_cons2 ds hds (fun D => h1 D (Bool.eq_false_or_eq_true (D j)).symm) h2
end
end Go.Bv
