/- The laws FnExactNameOk returns true of every text. -/
import Derived.Test.YtkfnhoblcfgamaaDoorFnNc
namespace Go.Proofs.YtkfnhoblcfgamaaDoor
open Go Go.RowKit Go.Bv
set_option linter.unusedSimpArgs false
set_option linter.unusedVariables false
set_option maxRecDepth 4000
set_option maxHeartbeats 4000000
/-! The walks that end. -/
theorem wFnNd4_0 {p : Prop} (h : p := by
  refine snd_b hT Tryd.func4 Tryd.results4 Tryd.ntmps4 ?_
  exact wk) : p := h
theorem c_laws_FnExactNameOk (s : ByteArray) {u : AV} (hu : u = .str s) (hs : s.size < 4611686018427387904) : Sound P 4 [u] (.bool true) := by
  subst hu
  by_cases h : (s.size : Int) > 1048576
  · have hd : decide ((s.size : Int) > 1048576) = true := decide_eq_true h
    clear h
    exact wFnNd4_0
  have hd : decide ((s.size : Int) > 1048576) = false := decide_eq_false h
  have hs1 : s.size ≤ 1048576 := by omega
  clear h
  obtain ⟨v, hv⟩ : ∃ v, rightB false s = v := ⟨_, rfl⟩
  have h1 := c_spec_NameOk s hs1
  have h2 := c_impl_NameOk s hs1
  rw [hv] at h1 h2
  cases v <;> (
    exact wFnNd4_0)
noncomputable abbrev ic_laws_FnExactNameOk := Con.mk (P := P) (f := 4) Tryd.call4 @c_laws_FnExactNameOk
attribute [instance] ic_laws_FnExactNameOk
end Go.Proofs.YtkfnhoblcfgamaaDoor
