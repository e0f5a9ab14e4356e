/- Contracts: lists of numbers. -/
import Derived.Test.YtffpfjnakhpheaaDoorKA
import Derived.Test.YtffpfjnakhpheaaDoorGlInt
namespace Go.Proofs.YtffpfjnakhpheaaDoor
open Go Go.RowKit Go.Bv
set_option linter.unusedSimpArgs false
set_option linter.unusedVariables false
set_option maxRecDepth 4000
set_option maxHeartbeats 1000000

/-- Where it first stands; -1: nowhere. -/
def idxP {α : Type} (p : α → Bool) (f : List α) : Int := match f.findIdx? p with | some i => i | none => -1
theorem idxP_none {α : Type} {p : α → Bool} {f : List α} {i : Nat} (hi : f.length ≤ i) (h : ∀ j x, j < i → f[j]? = some x → p x = false) : idxP p f = -1 := by
  unfold idxP
  have : f.findIdx? p = none := by
    rw [List.findIdx?_eq_none_iff]
    intro x hx
    obtain ⟨j, hj, rfl⟩ := List.getElem_of_mem hx
    exact h j _ (by omega) (List.getElem?_eq_getElem hj)
  rw [this]
theorem idxP_some {α : Type} {p : α → Bool} {f : List α} {i : Nat} {x : α} (hx : f[i]? = some x) (hp : p x = true) (h : ∀ j x, j < i → f[j]? = some x → p x = false) : idxP p f = i := by
  unfold idxP
  have hi := (List.getElem?_eq_some_iff.1 hx).1
  have hxe := (List.getElem?_eq_some_iff.1 hx).2
  have : f.findIdx? p = some i := by
    rw [List.findIdx?_eq_some_iff_getElem]
    exact ⟨hi, by rw [hxe, hp], fun j hj => by rw [h j _ hj (List.getElem?_eq_getElem (by omega))]; simp⟩
  rw [this]
theorem idxP_ge {α : Type} (p : α → Bool) (f : List α) : decide (idxP p f ≥ 0) = f.any p := by
  unfold idxP
  cases h : f.findIdx? p with
  | none =>
    rw [List.findIdx?_eq_none_iff] at h
    have : f.any p = false := by rw [List.any_eq_false]; intro x hx; simp [h x hx]
    rw [this]; decide
  | some i =>
    obtain ⟨hi, hp, _⟩ := List.findIdx?_eq_some_iff_getElem.1 h
    have : f.any p = true := List.any_eq_true.2 ⟨_, List.getElem_mem hi, hp⟩
    rw [this]; simp
theorem idxP_cases {α : Type} (p : α → Bool) (f : List α) : (idxP p f = -1 ∧ f.any p = false) ∨ ∃ i x, idxP p f = (i : Nat) ∧ i < f.length ∧ f[i]? = some x ∧ p x = true ∧ ∀ j y, j < i → f[j]? = some y → p y = false := by
  have hge := idxP_ge p f
  unfold idxP at hge ⊢
  cases h : f.findIdx? p with
  | none => rw [h] at hge; left; simpa using hge.symm
  | some i =>
    obtain ⟨hi, hp, hn⟩ := List.findIdx?_eq_some_iff_getElem.1 h
    refine .inr ⟨i, f[i], rfl, hi, List.getElem?_eq_getElem hi, hp, fun j y hj hy => ?_⟩
    have := hn j hj
    rw [List.getElem?_eq_getElem (by omega)] at hy
    simp only [Option.some.injEq] at hy
    subst hy
    simpa using this
/-- Told of those ahead. -/
def AheadP {α : Type} (p : α → Bool) (f : List α) (i : Nat) : Prop := ∀ j x, j < i → f[j]? = some x → p x = false
theorem AheadP.zero {α : Type} {p : α → Bool} {f : List α} : AheadP p f 0 := fun j _ h => by omega
theorem AheadP.succ {α : Type} {p : α → Bool} {f : List α} {i : Nat} {x : α} (h : AheadP p f i) (hx : f[i]? = some x) (hp : p x = false) : AheadP p f (i + 1) := by
  intro j y hj hy
  by_cases e : j = i
  · subst e; rw [hx] at hy; cases hy; exact hp
  · exact h j y (by omega) hy
theorem AheadP.any {α : Type} {p : α → Bool} {f : List α} {i : Nat} (h : AheadP p f i) (hi : f.length ≤ i) : f.any p = false := by
  rw [List.any_eq_false]
  intro x hx
  obtain ⟨j, hj, rfl⟩ := List.getElem_of_mem hx
  simp [h j _ (by omega) (List.getElem?_eq_getElem hj)]
theorem any_at {α : Type} {p : α → Bool} {f : List α} {i : Nat} {x : α} (hx : f[i]? = some x) (hp : p x = true) : f.any p = true := List.any_eq_true.2 ⟨x, List.mem_of_getElem? hx, hp⟩

end Go.Proofs.YtffpfjnakhpheaaDoor
