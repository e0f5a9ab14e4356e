/- Contracts: lists of numbers. -/
import Derived.Test.YtlgdijjkegeccaaFnA
import Derived.Test.YtlgdijjkegeccaaGlInt
namespace Go.Proofs.Ytlgdijjkegeccaa
open Go Go.RowKit Go.Bv
set_option linter.unusedSimpArgs false
set_option linter.unusedVariables false
set_option maxRecDepth 4000
set_option maxHeartbeats 1000000

/-- Where it first stands; -1: nowhere. -/
def idxP {α : Type} (p : α → Bool) (f : List α) : Int := match f.findIdx? p with | some i => i | none => -1
theorem idxP_none {α : Type} {p : α → Bool} {f : List α} {i : Nat} (hi : f.length ≤ i) (h : ∀ j x, j < i → f[j]? = some x → p x = false) : idxP p f = -1 := by
  unfold idxP
  have : f.findIdx? p = none := by
    rw [List.findIdx?_eq_none_iff]
    intro x hx
    obtain ⟨j, hj, rfl⟩ := List.getElem_of_mem hx
    exact h j _ (by omega) (List.getElem?_eq_getElem hj)
  rw [this]
theorem idxP_some {α : Type} {p : α → Bool} {f : List α} {i : Nat} {x : α} (hx : f[i]? = some x) (hp : p x = true) (h : ∀ j x, j < i → f[j]? = some x → p x = false) : idxP p f = i := by
  unfold idxP
  have hi := (List.getElem?_eq_some_iff.1 hx).1
  have hxe := (List.getElem?_eq_some_iff.1 hx).2
  have : f.findIdx? p = some i := by
    rw [List.findIdx?_eq_some_iff_getElem]
    exact ⟨hi, by rw [hxe, hp], fun j hj => by rw [h j _ hj (List.getElem?_eq_getElem (by omega))]; simp⟩
  rw [this]
theorem idxP_ge {α : Type} (p : α → Bool) (f : List α) : decide (idxP p f ≥ 0) = f.any p := by
  unfold idxP
  cases h : f.findIdx? p with
  | none =>
    rw [List.findIdx?_eq_none_iff] at h
    have : f.any p = false := by rw [List.any_eq_false]; intro x hx; simp [h x hx]
    rw [this]; decide
  | some i =>
    obtain ⟨hi, hp, _⟩ := List.findIdx?_eq_some_iff_getElem.1 h
    have : f.any p = true := List.any_eq_true.2 ⟨_, List.getElem_mem hi, hp⟩
    rw [this]; simp
theorem idxP_cases {α : Type} (p : α → Bool) (f : List α) : (idxP p f = -1 ∧ f.any p = false) ∨ ∃ i x, idxP p f = (i : Nat) ∧ i < f.length ∧ f[i]? = some x ∧ p x = true ∧ ∀ j y, j < i → f[j]? = some y → p y = false := by
  have hge := idxP_ge p f
  unfold idxP at hge ⊢
  cases h : f.findIdx? p with
  | none => rw [h] at hge; left; simpa using hge.symm
  | some i =>
    obtain ⟨hi, hp, hn⟩ := List.findIdx?_eq_some_iff_getElem.1 h
    refine .inr ⟨i, f[i], rfl, hi, List.getElem?_eq_getElem hi, hp, fun j y hj hy => ?_⟩
    have := hn j hj
    rw [List.getElem?_eq_getElem (by omega)] at hy
    simp only [Option.some.injEq] at hy
    subst hy
    simpa using this
/-- Told of those ahead. -/
def AheadP {α : Type} (p : α → Bool) (f : List α) (i : Nat) : Prop := ∀ j x, j < i → f[j]? = some x → p x = false
theorem AheadP.zero {α : Type} {p : α → Bool} {f : List α} : AheadP p f 0 := fun j _ h => by omega
theorem AheadP.succ {α : Type} {p : α → Bool} {f : List α} {i : Nat} {x : α} (h : AheadP p f i) (hx : f[i]? = some x) (hp : p x = false) : AheadP p f (i + 1) := by
  intro j y hj hy
  by_cases e : j = i
  · subst e; rw [hx] at hy; cases hy; exact hp
  · exact h j y (by omega) hy
theorem AheadP.any {α : Type} {p : α → Bool} {f : List α} {i : Nat} (h : AheadP p f i) (hi : f.length ≤ i) : f.any p = false := by
  rw [List.any_eq_false]
  intro x hx
  obtain ⟨j, hj, rfl⟩ := List.getElem_of_mem hx
  simp [h j _ (by omega) (List.getElem?_eq_getElem hj)]
theorem any_at {α : Type} {p : α → Bool} {f : List α} {i : Nat} {x : α} (hx : f[i]? = some x) (hp : p x = true) : f.any p = true := List.any_eq_true.2 ⟨x, List.mem_of_getElem? hx, hp⟩

theorem c_spec_l2Has (f : List Int) (x : Int) (hl : f.length < 4611686018427387904) : Sound P 72 [.lst false 1 (f.map encInt), .int .i64 x] (.bool (f.any (· == x))) := by
  refine snd_b hT Try.func72 Try.results72 Try.ntmps72 ?_
  repeat' (first | refine one ?_ | (refine two ?_ ?_; all_goals (intro h; try simp only [Bool.not_eq_true', Bool.not_eq_false', reduceCtorEq] at h)) | fail)
  refine aw_loop [2, 3, 6, 7, 8, 9, 10, 11, 12, 13, 14, 15, 16, 17] (fun n S => ∃ i : Nat, n = f.length - i ∧ i ≤ f.length ∧ AheadP (· == x) f i ∧ S = [.lst false 1 (f.map encInt), .int .i64 x, .undef, .undef, .bool false, .int .i64 i, .undef, .undef, .undef, .undef, .undef, .undef, .undef, .undef, .undef, .undef, .undef, .undef]) f.length ?_ ?_
  · refine ⟨0, by simp, by omega, .zero, ?_⟩
    simp only [clr, go_sem]
    first | done | rfl
  · rintro n S ⟨i, hn, hi, ha, rfl⟩
    have hwi : IntKind.i64.wrap ((i : Int) + 1) = ((i + 1 : Nat) : Int) := by rw [wrap_small] <;> omega
    by_cases hlt : i < f.length
    · have hd : decide ((i : Int) < (f.length : Int)) = true := by simp [hlt]
      obtain ⟨y, hy⟩ : ∃ y, f[i]? = some y := ⟨f[i], by simp [hlt]⟩
      (all_goals (have E0 := @encInt.eq_1))
      repeat' (first | refine one ?_ | (refine two ?_ ?_; all_goals (intro h; try simp only [Bool.not_eq_true', Bool.not_eq_false', reduceCtorEq] at h)) | fail)
      all_goals (try clear E0)
      · (simp only [go_sem, *])
        rw [any_at hy h]
      · refine ⟨f.length - (i + 1), by omega, i + 1, rfl, by omega, ha.succ hy h, ?_⟩
        simp only [clr, go_sem]
    · have hd : decide ((i : Int) < (f.length : Int)) = false := by simp; omega
      repeat' (first | refine one ?_ | (refine two ?_ ?_; all_goals (intro h; try simp only [Bool.not_eq_true', Bool.not_eq_false', reduceCtorEq] at h)) | fail)
      (simp only [go_sem, *])
      rw [ha.any (by omega)]
noncomputable abbrev ic_spec_l2Has := Con.mk (P := P) (f := 72) Try.call72 @c_spec_l2Has
attribute [instance] ic_spec_l2Has
theorem c_slices_Index_int_int (f : List Int) (x : Int) (hl : f.length < 4611686018427387904) : Sound P 126 [.lst false 1 (f.map encInt), .int .i64 x] (.int .i64 (idxP (fun y => x == y) f)) := by
  refine snd_b hT Try.func126 Try.results126 Try.ntmps126 ?_
  repeat' (first | refine one ?_ | (refine two ?_ ?_; all_goals (intro h; try simp only [Bool.not_eq_true', Bool.not_eq_false', reduceCtorEq] at h)) | fail)
  refine aw_loop [2, 3, 5, 9, 10, 11, 12, 13, 14, 15, 16, 17, 18] (fun n S => ∃ i : Nat, n = f.length - i ∧ i ≤ f.length ∧ AheadP (fun y => x == y) f i ∧ S = [.lst false 1 (f.map encInt), .int .i64 x, .undef, .undef, .int .i64 0, .undef, .lst false 1 (f.map encInt), .int .i64 f.length, .int .i64 i, .undef, .undef, .undef, .undef, .undef, .undef, .undef, .undef, .undef, .undef]) f.length ?_ ?_
  · refine ⟨0, by simp, by omega, .zero, ?_⟩
    simp only [clr, go_sem]
    first | done | rfl
  · rintro n S ⟨i, hn, hi, ha, rfl⟩
    have hwi : IntKind.i64.wrap ((i : Int) + 1) = ((i + 1 : Nat) : Int) := by rw [wrap_small] <;> omega
    by_cases hlt : i < f.length
    · have hd : decide ((i : Int) < (f.length : Int)) = true := by simp [hlt]
      obtain ⟨y, hy⟩ : ∃ y, f[i]? = some y := ⟨f[i], by simp [hlt]⟩
      (all_goals (have E0 := @encInt.eq_1))
      repeat' (first | refine one ?_ | (refine two ?_ ?_; all_goals (intro h; try simp only [Bool.not_eq_true', Bool.not_eq_false', reduceCtorEq] at h)) | fail)
      all_goals (try clear E0)
      · (simp only [go_sem, *])
        rw [idxP_some hy h ha]
      · refine ⟨f.length - (i + 1), by omega, i + 1, rfl, by omega, ha.succ hy h, ?_⟩
        simp only [clr, go_sem]
    · have hd : decide ((i : Int) < (f.length : Int)) = false := by simp; omega
      repeat' (first | refine one ?_ | (refine two ?_ ?_; all_goals (intro h; try simp only [Bool.not_eq_true', Bool.not_eq_false', reduceCtorEq] at h)) | fail)
      (simp only [go_sem, *])
      rw [idxP_none (i := i) (by omega) ha]
noncomputable abbrev ic_slices_Index_int_int := Con.mk (P := P) (f := 126) Try.call126 @c_slices_Index_int_int
attribute [instance] ic_slices_Index_int_int
theorem any_flip (f : List Int) (x : Int) : f.any (fun y => x == y) = f.any (· == x) := by
  congr 1; funext y; exact Bool.beq_comm
theorem c_slices_Contains_int_int (f : List Int) (x : Int) (hl : f.length < 4611686018427387904) : Sound P 77 [.lst false 1 (f.map encInt), .int .i64 x] (.bool (f.any (· == x))) := by
  refine snd_b hT Try.func77 Try.results77 Try.ntmps77 ?_
  repeat' (first | refine one ?_ | (refine two ?_ ?_; all_goals (intro h; try simp only [Bool.not_eq_true', Bool.not_eq_false', reduceCtorEq] at h)) | fail)
  (simp only [go_sem, *])
  rw [idxP_ge, any_flip]
noncomputable abbrev ic_slices_Contains_int_int := Con.mk (P := P) (f := 77) Try.call77 @c_slices_Contains_int_int
attribute [instance] ic_slices_Contains_int_int
theorem c_slices_Clone_int_int (f : List Int) (hf : f.length ≤ 4194304) : Sound P 103 [.lst false 1 (f.map encInt)] (.lst true 1 (f.map encInt)) := by
  refine snd_b hT Try.func103 Try.results103 Try.ntmps103 ?_
  repeat' (first
  | (with_reducible apply al_isnil hT
     · exact gchk_none rfl
     · rfl
     · simp only [go_sem]; first | done | with_reducible rfl
     · simp only [go_sem, *]; with_reducible rfl
     · simp only [go_sem, *]; with_reducible rfl
     intro b hb
     with_reducible apply al_cast
     · simp only [go_sem]; with_reducible rfl)
  | refine oneF ?_ | (refine two ?_ ?_; all_goals (intro h; try simp only [Bool.not_eq_true', Bool.not_eq_false', reduceCtorEq] at h)) | fail)
  · have hf0 : f = [] := by
      have : f.length = 0 := by
        by_cases h0 : f.length = 0
        · exact h0
        · have := hb h0; rw [h] at this; cases this
      exact List.eq_nil_of_length_eq_zero this
    subst hf0
    (simp only [go_sem, *])
    first | done | rfl
  · (simp only [go_sem, *])
noncomputable abbrev ic_slices_Clone_int_int := Con.mk (P := P) (f := 103) Try.call103 @c_slices_Clone_int_int
attribute [instance] ic_slices_Clone_int_int
theorem c_spec_l2Copy (f : List Int) (hf : f.length ≤ 4194304) : Sound P 91 [.lst false 1 (f.map encInt)] (.lst true 1 (f.map encInt)) := by
  refine snd_b hT Try.func91 Try.results91 Try.ntmps91 ?_
  repeat' (first | refine oneF ?_ | (refine two ?_ ?_; all_goals (intro h; try simp only [Bool.not_eq_true', Bool.not_eq_false', reduceCtorEq] at h)) | fail)
  all_goals (simp only [go_sem, *])
noncomputable abbrev ic_spec_l2Copy := Con.mk (P := P) (f := 91) Try.call91 @c_spec_l2Copy
attribute [instance] ic_spec_l2Copy
end Go.Proofs.Ytlgdijjkegeccaa
