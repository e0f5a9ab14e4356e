/- Draws: a name and a pattern. -/
import Derived.Test.YtffpfjnakhpheaaDoorFnDb
import Derived.Test.YtffpfjnakhpheaaDoorBvM5
import Derived.Test.YtffpfjnakhpheaaDoorBvFz
import Derived.Test.YtffpfjnakhpheaaDoorBvFs
namespace Go.Proofs.YtffpfjnakhpheaaDoor
open Go Go.RowKit Go.Bv
set_option linter.unusedSimpArgs false
set_option linter.unusedVariables false
set_option maxRecDepth 4000
set_option maxHeartbeats 8000000
/-! The walks that end. -/
theorem wFnMq13_0 {p : Prop} (h : p := by
  refine snd_b hT Tryd.func13 Tryd.results13 Tryd.ntmps13 ?_
  exact wk) : p := h
theorem sFnMq15 {p q : Prop} (k : q) (h : q → p := by
  first
  | exact shAL (by exact i_fz hT)
  | exact i1
  | fail) : p := h k
theorem wFnMq15_0 {p : Prop} (h : p := by
  have E0 := @encCur.eq_1
  refine snd_B hT Tryd.func15 Tryd.results15 Tryd.ntmps15 ?_
  repeat' (first | refine sFnMq15 ?_ | (refine two ?_ ?_; all_goals (intro h; try simp only [Bool.not_eq_true', Bool.not_eq_false', reduceCtorEq] at h)) | fail)
  all_goals (simp only [go_sem, *]; first | done | rfl)) : p := h
theorem wFnMq6_0 {p : Prop} (h : p := by
  have E0 := @encCur.eq_1
  refine snd_b hT Tryd.func6 Tryd.results6 Tryd.ntmps6 ?_
  exact wk) : p := h
-- DRAW spec.DrawMatches
-- FROZEN spec.l11Pattern

theorem ashs_S (f : List ByteArray) : ashs (f.map AV.str) = f.map AV.str := ashs_map (g := AV.str) (h := AV.str) (fun x => rfl) f
theorem leafAs_S (f : List ByteArray) : leafAs (f.map AV.str) = true := leafAs_map (g := AV.str) (fun x => rfl) f
theorem noShs_S (f : List ByteArray) : noShs (f.map AV.str) = true := noShs_map (g := AV.str) (fun x => rfl) f
attribute [go_sem] ashs_S leafAs_S noShs_S plAs_S alen_S
theorem frzs_S (f : List ByteArray) : frzs (f.map AV.str) = f.map AV.str := by
  induction f with
  | nil => rfl
  | cons x f ih => simp only [List.map_cons, frzs, frz, ih]
/-- The names of a draw. -/
def namesL : List ByteArray := [{ data := #[97] }, { data := #[97, 46, 98] }, { data := #[97, 46, 98, 46, 99] }, { data := #[98] }, { data := #[98, 46, 99] }, { data := #[120, 49] }, { data := #[110, 101, 119, 115] }, { data := #[110, 101, 119, 115, 46, 101, 117] }, { data := #[97, 46, 99] }]
def marksL : List ByteArray := [{ data := #[62] }, { data := #[42] }, { data := #[97, 46, 42] }, { data := #[97, 46, 62] }, { data := #[42, 46, 98] }, { data := #[42, 46, 42] }, { data := #[97, 46, 98, 46, 62] }, { data := #[98, 46, 62] }, { data := #[] }, { data := #[62, 46, 97] }, { data := #[97, 42] }, { data := #[97, 46, 46, 98] }, { data := #[42, 46, 42, 46, 42] },
  { data := #[48, 49, 50, 51, 52, 53, 54, 55, 56, 57, 46, 48, 49, 50, 51, 52, 53, 54, 55, 56, 57, 46, 48, 49, 50] }, { data := #[48, 49, 50, 51, 52, 53, 54, 55, 56, 57, 46, 48, 49, 50, 51, 52, 53, 54, 55, 56, 57, 46, 48, 49, 50, 51] }]
theorem names_ne : namesL ≠ [] := by simp [namesL]
theorem marks_ne : marksL ≠ [] := by simp [marksL]
theorem names_le : (namesL.all fun w => decide (w.size ≤ 30)) = true := by decide
theorem marks_le : (marksL.all fun w => decide (w.size ≤ 30)) = true := by decide
theorem o_l11Names : Sound P 13 [] (.lst true 1 (namesL.map AV.str)) := by
  exact wFnMq13_0
theorem c_spec_l11Names : Sound P 13 [] (.lst false 1 (namesL.map AV.str)) := by
  have h := sound_frz rfl (by simp only [plA, plAs_S]) o_l11Names
  simp only [frz, frzs_S] at h
  exact h
noncomputable abbrev ic_spec_l11Names := Con.mk (P := P) (f := 13) Tryd.call13 @c_spec_l11Names
attribute [instance] ic_spec_l11Names
noncomputable def patV (y : CurV) : ByteArray := if belV y 3 = 0 then pickV (belC y 3) namesL else pickV (belC y 3) marksL
noncomputable def patC (y : CurV) : CurV := if belV y 3 = 0 then belC (belC y 3) 9 else belC (belC y 3) 15
theorem patV_le (y : CurV) : (patV y).size ≤ 30 := by
  unfold patV
  split
  · exact pickV_le _ names_ne names_le
  · exact pickV_le _ marks_ne marks_le
-- LENTB b_spec_l11Pattern
theorem b_spec_l11Pattern (y : CurV) {u : AV} (hu : u = .box (encCur y)) : SoundB P 15 [u] 0 (.str (patV y)) (.box (encCur (patC y))) := by
  subst hu
  have k1 := Kept.mk (show [AV.str { data := #[62] }, AV.str { data := #[42] }, AV.str { data := #[97, 46, 42] }, AV.str { data := #[97, 46, 62] }, AV.str { data := #[42, 46, 98] }, AV.str { data := #[42, 46, 42] }, AV.str { data := #[97, 46, 98, 46, 62] }, AV.str { data := #[98, 46, 62] }, AV.str { data := #[] }, AV.str { data := #[62, 46, 97] }, AV.str { data := #[97, 42] }, AV.str { data := #[97, 46, 46, 98] }, AV.str { data := #[42, 46, 42, 46, 42] }, AV.str { data := #[48, 49, 50, 51, 52, 53, 54, 55, 56, 57, 46, 48, 49, 50, 51, 52, 53, 54, 55, 56, 57, 46, 48, 49, 50] }, AV.str { data := #[48, 49, 50, 51, 52, 53, 54, 55, 56, 57, 46, 48, 49, 50, 51, 52, 53, 54, 55, 56, 57, 46, 48, 49, 50, 51] }] = marksL.map AV.str from rfl)
  have k2 := Kept.mk (show namesL.map AV.str = namesL.map AV.str from rfl)
  have k3 := Kept.mk names_ne
  have k4 := Kept.mk marks_ne
  have l1 : (namesL.length : Int) = 9 := rfl
  have l2 : (marksL.length : Int) = 15 := rfl
  cases h : (belV y 3 == 0)
  · have h' : ¬ belV y 3 = 0 := by simpa using h
    rw [show patV y = _ by rw [patV, if_neg h'], show patC y = _ by rw [patC, if_neg h']]
    clear h'
    exact wFnMq15_0
  · have h' : belV y 3 = 0 := by simpa using h
    rw [show patV y = _ by rw [patV, if_pos h'], show patC y = _ by rw [patC, if_pos h']]
    clear h'
    exact wFnMq15_0
noncomputable abbrev ib_spec_l11Pattern := ConB.mk (P := P) (f := 15) Tryd.call15 @b_spec_l11Pattern
attribute [instance] ib_spec_l11Pattern
theorem c_spec_DrawMatches {u v : AV} (h : Sound P 6 [u] v) : Sound P 6 [u] v := h
noncomputable abbrev ic_spec_DrawMatches := Con.mk (P := P) (f := 6) Tryd.call6 @c_spec_DrawMatches
attribute [instance] ic_spec_DrawMatches
theorem ex_DrawMatches (code : List Int) (hl : code.length ≤ 1048576) (hb : ∀ x ∈ code, 0 ≤ x ∧ x ≤ 255) : ∃ (s t : ByteArray), s.size ≤ 30 ∧ t.size ≤ 30 ∧ Sound P 6 [.lst false 1 (code.map encU8)] (.tup [.str s, .str t]) := by
  have h1 := c_spec_l1New code rfl hl hb
  obtain ⟨Y, hY⟩ : ∃ Y, newC code = Y := ⟨_, rfl⟩
  rw [hY] at h1
  have k2 := Kept.mk (show namesL.map AV.str = namesL.map AV.str from rfl)
  have k3 := Kept.mk names_ne
  have l1 : (namesL.length : Int) = 9 := rfl
  clear hb hY
  cases h : (belV (belC Y 9) 9 == 0)
  · refine ⟨pickV Y namesL, patV (belC (belC Y 9) 9), pickV_le _ names_ne names_le, patV_le _, ?_⟩
    exact wFnMq6_0
  · refine ⟨patV (belC (belC Y 9) 9), patV (patC (belC (belC Y 9) 9)), patV_le _, patV_le _, ?_⟩
    exact wFnMq6_0
end Go.Proofs.YtffpfjnakhpheaaDoor
