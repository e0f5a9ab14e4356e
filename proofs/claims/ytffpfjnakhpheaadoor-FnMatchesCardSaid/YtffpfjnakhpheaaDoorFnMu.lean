/- The law FnMatches returns true of every code. -/
import Derived.Test.YtffpfjnakhpheaaDoorFnMq
import Derived.Test.YtffpfjnakhpheaaDoorFnMt
import Derived.Test.YtffpfjnakhpheaaDoorBvM5
namespace Go.Proofs.YtffpfjnakhpheaaDoor
open Go Go.RowKit Go.Bv
set_option linter.unusedSimpArgs false
set_option linter.unusedVariables false
set_option maxRecDepth 4000
set_option maxHeartbeats 8000000
/-! The walks that end. -/
theorem wFnMu5_0 {p : Prop} (h : p := by
  refine snd_b hT Tryd.func5 Tryd.results5 Tryd.ntmps5 ?_
  exact wk) : p := h
theorem wFnMu3_0 {p : Prop} (h : p := by
  refine snd_b hT Tryd.func3 Tryd.results3 Tryd.ntmps3 ?_
  exact wk) : p := h
theorem wFnMu3_1 {p : Prop} (h : p := by
  exact wk) : p := h

theorem m_none {s t : ByteArray} (h : rightB false s = false) : matchB s t = false := by rw [matchB, h, Bool.false_and]
theorem starN_succ {s : ByteArray} {i : Nat} (h : dotAt s i = true) : starN (dotsN s i) ++ { data := #[42, 46] } = starN (dotsN s (i + 1)) := by
  have : dotsN s (i + 1) = dotsN s i + 1 := by rw [dotsN, if_pos h]
  rw [this]; rfl
theorem starN_same {s : ByteArray} {i : Nat} (h : dotAt s i = false) : starN (dotsN s i) = starN (dotsN s (i + 1)) := by
  have : dotsN s (i + 1) = dotsN s i := by rw [dotsN, h]; rfl
  rw [this]
theorem dotsN_le (s : ByteArray) : ∀ i, dotsN s i ≤ i
  | 0 => Nat.le_refl _
  | i + 1 => by
    have := dotsN_le s i
    rw [dotsN]
    split <;> omega
theorem c_laws_big (xs : List AV) {u : AV} (hu : u = .lst false 1 xs) : Sound P 5 [u] (.bool (decide ((xs.length : Int) > 1048576))) := by
  subst hu
  exact wFnMu5_0
noncomputable abbrev ic_laws_big := Con.mk (P := P) (f := 5) Tryd.call5 @c_laws_big
attribute [instance] ic_laws_big
theorem c_laws_FnMatches (code : List Int) {u : AV} (hu : u = .lst false 1 (code.map encU8)) (hl : code.length < 4611686018427387904) (hb : ∀ x ∈ code, 0 ≤ x ∧ x ≤ 255) : Sound P 3 [u] (.bool true) := by
  subst hu
  by_cases hbig : 1048576 < code.length
  · have hg : decide ((code.length : Int) > 1048576) = true := decide_eq_true (by omega)
    clear hb hbig
    exact wFnMu3_0
  have hg : decide ((code.length : Int) > 1048576) = false := decide_eq_false (by omega)
  obtain ⟨s, t, hs, ht, hD⟩ := ex_DrawMatches code (by omega) hb
  have h1 := c_impl_Matches s t (by omega) (by omega)
  have h2 := c_spec_Matches s t (by omega) (by omega)
  have h3 := c_spec_NameOk s (by omega)
  have h4 := c_impl_Matches s gtT (by omega) (by decide)
  have h5 := c_impl_Matches s s (by omega) (by omega)
  rw [show gtT = { data := #[62] } from rfl] at h4
  clear hb hbig
  cases hN : rightB false s
  · rw [m_none hN] at h1 h2 h4 h5
    rw [hN] at h3
    clear hN
    exact wFnMu3_0
  rw [hN] at h3
  rw [m_self hN] at h5
  rw [show ({ data := #[62] } : ByteArray) = gtT from rfl, m_all hN, show gtT = { data := #[62] } from rfl] at h4
  have h6 := c_impl_PatternOk s (by omega)
  rw [right_true hN] at h6
  have hdl := dotsN_le s s.size
  have hx2 : (starN (dotsN s s.size)).size = 2 * dotsN s s.size := starN_size _
  have s1 : (starN (dotsN s s.size) ++ starT).size ≤ 1048576 := by rw [ByteArray.size_append, hx2, show starT.size = 1 from rfl]; omega
  have s2 : (starN (dotsN s s.size) ++ twoT).size ≤ 1048576 := by rw [ByteArray.size_append, hx2, show twoT.size = 3 from rfl]; omega
  have h7 := c_impl_Matches s (starN (dotsN s s.size) ++ starT) (by omega) s1
  have h8 := c_impl_Matches s (starN (dotsN s s.size) ++ twoT) (by omega) s2
  rw [m_stars hN, show starT = { data := #[42] } from rfl] at h7
  rw [m_more hN, show twoT = { data := #[42, 46, 42] } from rfl] at h8
  have z1 : ByteArray.size { data := #[42] } = 1 := rfl
  have z2 : ByteArray.size { data := #[42, 46] } = 2 := rfl
  have z3 : ByteArray.size { data := #[42, 46, 42] } = 3 := rfl
  have hxb : (starN (dotsN s s.size)).size + 3 ≤ 4611686018427387904 := by omega
  obtain ⟨m, hm⟩ : ∃ m, matchB s t = m := ⟨_, rfl⟩
  rw [hm] at h1 h2
  clear hN hm s1 s2 hx2 hdl
  have hmm : (m != m) = false := by cases m <;> rfl
  (
    refine snd_b hT Tryd.func3 Tryd.results3 Tryd.ntmps3 ?_
    repeat' (first | refine one ?_ | (refine two ?_ ?_; all_goals (intro h; try simp only [Bool.not_eq_true', Bool.not_eq_false', reduceCtorEq] at h)) | fail)
    refine aw_loop [1, 8, 9, 10, 11, 12, 13, 14, 15, 16, 17, 18, 19, 20, 21, 22, 23, 24, 25, 26, 27, 28, 29, 30, 31, 32, 33, 34, 35, 36, 37, 38, 39, 40, 41, 42, 43, 44, 45, 46, 47, 48, 49, 50, 51, 52, 53, 54, 55, 56, 57, 58, 59, 60, 61, 62, 63, 64, 65, 66, 67, 68, 69, 70, 71, 72, 73, 74] (fun n S => ∃ i : Nat, n = s.size - i ∧ i ≤ s.size ∧ S = [.lst false 1 (code.map encU8), .undef, .bool false, .str s, .str t, .bool m, .str (starN (dotsN s i)), .int .i64 i, .undef, .undef, .undef, .undef, .undef, .undef, .undef, .undef, .undef, .undef, .undef, .undef, .undef, .undef, .undef, .undef, .undef, .undef, .undef, .undef, .undef, .undef, .undef, .undef, .undef, .undef, .undef, .undef, .undef, .undef, .undef, .undef, .undef, .undef, .undef, .undef, .undef, .undef, .undef, .undef, .undef, .undef, .undef, .undef, .undef, .undef, .undef, .undef, .undef, .undef, .undef, .undef, .undef, .undef, .undef, .undef, .undef, .undef, .undef, .undef, .undef, .undef, .undef, .undef, .undef, .undef, .undef]) s.size ?_ ?_
    · refine ⟨0, by simp, by omega, ?_⟩
      (rw [clr_eq]; rotate_left; rfl; simp only [keepB, go_sem, Nat.reduceBEq, Nat.reduceAdd, cond_true, cond_false, *]; simp only [clrG, Nat.reduceBEq, Nat.reduceAdd, cond_true, cond_false])
      first | done | rfl
    rintro n S ⟨i, hn, hi, rfl⟩
    have hw : IntKind.i64.wrap ((i : Int) + 1) = ((i + 1 : Nat) : Int) := by rw [wrap_small] <;> omega
    by_cases hlt : i < s.size
    rotate_left
    · have hd : decide ((i : Int) < (s.size : Int)) = false := decide_eq_false (by omega)
      have hie : i = s.size := by omega
      subst hie
      obtain ⟨X, hX⟩ : ∃ X, starN (dotsN s s.size) = X := ⟨_, rfl⟩
      rw [hX] at h7 h8 hxb
      rw [hX]
      have y1 : X.size ≤ 4611686018427387903 := by omega
      have y2 : X.size ≤ 4611686018427387902 := by omega
      have y3 : X.size ≤ 4611686018427387901 := by omega
      clear hn hi hlt hX hxb
      exact wFnMu3_1
    have hd : decide ((i : Int) < (s.size : Int)) = true := decide_eq_true (by omega)
    obtain ⟨b, hb⟩ := byte_at (s := s) (i := i) hlt
    have hdot := dot_at hb
    have hdl := dotsN_le s i
    have hx2 : (starN (dotsN s i)).size = 2 * dotsN s i := starN_size _
    cases hc : ((b.toNat : Int) == 46)
    · rw [hc] at hdot
      have hst := Kept.mk (starN_same hdot)
      clear hdot hx2 hdl h1 h2 h3 h4 h5 h6 h7 h8 hD
      repeat' (first | refine one ?_ | (refine two ?_ ?_; all_goals (intro h; try simp only [Bool.not_eq_true', Bool.not_eq_false', reduceCtorEq] at h)) | fail)
      all_goals (
        refine ⟨s.size - (i + 1), by omega, i + 1, rfl, by omega, ?_⟩
        rw [← hst.out]
        clear hst
        (rw [clr_eq]; rotate_left; rfl; simp only [keepB, go_sem, Nat.reduceBEq, Nat.reduceAdd, cond_true, cond_false, *]; simp only [clrG, Nat.reduceBEq, Nat.reduceAdd, cond_true, cond_false])
        first | done | rfl)
    · rw [hc] at hdot
      have hst := Kept.mk (starN_succ hdot)
      have y2 : (starN (dotsN s i)).size ≤ 4611686018427387902 := by omega
      clear hdot hx2 hdl h1 h2 h3 h4 h5 h6 h7 h8 hD
      repeat' (first | refine one ?_ | (refine two ?_ ?_; all_goals (intro h; try simp only [Bool.not_eq_true', Bool.not_eq_false', reduceCtorEq] at h)) | fail)
      all_goals (
        refine ⟨s.size - (i + 1), by omega, i + 1, rfl, by omega, ?_⟩
        rw [← hst.out]
        clear hst
        (rw [clr_eq]; rotate_left; rfl; simp only [keepB, go_sem, Nat.reduceBEq, Nat.reduceAdd, cond_true, cond_false, *]; simp only [clrG, Nat.reduceBEq, Nat.reduceAdd, cond_true, cond_false])
        first | done | rfl))
noncomputable abbrev ic_laws_FnMatches := Con.mk (P := P) (f := 3) Tryd.call3 @c_laws_FnMatches
attribute [instance] ic_laws_FnMatches
end Go.Proofs.YtffpfjnakhpheaaDoor
