/- Contracts: slices.Delete of one subscription. -/
import Derived.Test.YtlgdijjkegeccaaKR
import Derived.Test.YtlgdijjkegeccaaBvM5
import Derived.Test.YtlgdijjkegeccaaBvDl
namespace Go.Proofs.Ytlgdijjkegeccaa
open Go Go.RowKit Go.Bv
set_option linter.unusedSimpArgs false
set_option linter.unusedVariables false
set_option maxRecDepth 4000
set_option maxHeartbeats 1000000
/-! The walks that end. -/
theorem sFnDl96 {p q : Prop} (k : q) (h : q → p := by
  first
  | exact shAL (by exact i_sl3 hT)
  | exact shAL (by exact i_slC hT)
  | exact shAL (by exact i_del hT 18)
  | exact shAR 5 (by exact i_T hT [[], [], [0, 1], [], [], [3, 4], [0, 1, 2, 3, 4, 5], [0, 1, 2, 3, 4, 5, 6]] 6 [20, 21, 22, 23, 24, 25])
  | exact i1
  | fail) : p := h k
-- ALT slices.Delete[[]impl.Sub,impl.Sub] exact shAL (by exact i_sl3 hT)
-- ALT slices.Delete[[]impl.Sub,impl.Sub] exact shAL (by exact i_slC hT)
-- ALT slices.Delete[[]impl.Sub,impl.Sub] exact shAL (by exact i_del hT 18)

def lessS (f : List SubV) (k : Nat) : List SubV := f.take k ++ f.drop (k + 1)
theorem lessS_len {f : List SubV} {k : Nat} (h : k < f.length) : (lessS f k).length = f.length - 1 := by simp [lessS]; omega
theorem dropped_len {f : List SubV} {k : Nat} (h : k < f.length) : (dropped k (k + 1) (f.map (encSub true))).length = f.length := by
  simp [dropped]; omega
theorem dropped_all {f : List SubV} {k : Nat} : ((dropped k (k + 1) (f.map (encSub true))).all fun y => alen y == 7) = true := by
  have h7 : ∀ y ∈ f.map (encSub true), alen y = 7 := fun y hy => by
    obtain ⟨s, _, rfl⟩ := List.mem_map.1 hy
    rfl
  rw [List.all_eq_true]
  intro y hy
  simp only [dropped, List.mem_append, List.mem_map] at hy
  rcases hy with hy | hy | ⟨z, hz, rfl⟩
  · simpa using h7 y (List.mem_of_mem_take hy)
  · simpa using h7 y (List.mem_of_mem_drop hy)
  · have := h7 z (List.mem_of_mem_drop hz)
    simp only [blankA, alen, this]; rfl
theorem dropped_take {f : List SubV} {k : Nat} (h : k < f.length) (R : List AV) : List.take (f.length - 1) (List.take (f.length - 1) (dropped k (k + 1) (f.map (encSub true))) ++ R) = (lessS f k).map (encSub true) := by
  have h1 : (List.take (f.length - 1) (dropped k (k + 1) (f.map (encSub true)))).length = f.length - 1 := by rw [List.length_take, dropped_len h]; omega
  rw [List.take_left' h1]
  simp only [dropped, lessS, List.map_append, List.map_take, List.map_drop]
  rw [← List.append_assoc, List.take_left']
  simp; omega
-- MOVE c_slices_Delete_impl_Sub_impl_Sub
theorem c_slices_Delete_impl_Sub_impl_Sub (f : List SubV) (k : Nat) {u : AV} (hu : u = .lst true 7 (f.map (encSub true))) (hk : k < f.length) (hl : f.length < 4611686018427387904) : Sound P 96 [u, .int .i64 (k : Nat), .int .i64 ((k + 1 : Nat) : Int)] (.lst true 7 ((lessS f k).map (encSub true))) := by
  subst hu
  have e0 : ((k : Int) == ((k + 1 : Nat) : Int)) = false := by simp; omega
  have a1 : (0 : Int) ≤ (k : Int) := by omega
  have a2 : (k : Int) ≤ (f.length : Int) := by omega
  have a3 : (0 : Int) ≤ ((k + 1 : Nat) : Int) := by omega
  have a4 : ((k + 1 : Nat) : Int) ≤ (f.length : Int) := by omega
  have hM : k + (f.length - (k + 1)) = f.length - 1 := by omega
  have a5 : (0 : Int) ≤ ((f.length - 1 : Nat) : Int) := by omega
  have a6 : ((f.length - 1 : Nat) : Int) ≤ (f.length : Int) := by omega
  have a7 : (f.length : Int) ≤ (f.length : Int) := Int.le_refl _
  have hdl := dropped_len hk
  have hda := dropped_all (f := f) (k := k)
  refine snd_b hT Try.func96 Try.results96 Try.ntmps96 ?_
  (all_goals (have E0 := @encSub.eq_1))
  repeat' (first | refine sFnDl96 ?_ | (refine two ?_ ?_; all_goals (intro h; try simp only [Bool.not_eq_true', Bool.not_eq_false', reduceCtorEq] at h)) | fail)
  all_goals (try clear E0)
  all_goals ((simp only [go_sem, *]); simp only [dropped_take hk])
noncomputable abbrev ic_slices_Delete_impl_Sub_impl_Sub := ConM.mk (P := P) (f := 96) Try.call96 @c_slices_Delete_impl_Sub_impl_Sub
attribute [instance] ic_slices_Delete_impl_Sub_impl_Sub
end Go.Proofs.Ytlgdijjkegeccaa
