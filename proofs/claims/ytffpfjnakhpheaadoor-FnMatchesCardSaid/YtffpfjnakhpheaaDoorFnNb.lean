/- Names: a plain part of a name. -/
import Derived.Test.YtffpfjnakhpheaaDoorFnNa
namespace Go.Proofs.YtffpfjnakhpheaaDoor
open Go Go.RowKit Go.Bv
set_option linter.unusedSimpArgs false
set_option linter.unusedVariables false
set_option maxRecDepth 4000
set_option maxHeartbeats 4000000
/-! The walks that end. -/
theorem wFnNb21_0 {p : Prop} (h : p := by
  exact wk) : p := h
theorem wFnNb28_0 {p : Prop} (h : p := by
  refine snd_b hT Tryd.func28 Tryd.results28 Tryd.ntmps28 ?_
  exact wk) : p := h
theorem wFnNb28_1 {p : Prop} (h : p := by
  exact wk) : p := h

def letP (b : UInt8) : Bool := !((decide ((b.toNat : Int) < 97) || decide ((b.toNat : Int) > 122)) && (decide ((b.toNat : Int) < 48) || decide ((b.toNat : Int) > 57)))
theorem letP_cases (b : UInt8) : (decide ((b.toNat : Int) < 97) = true ∧ decide ((b.toNat : Int) > 122) = false ∧ decide ((b.toNat : Int) < 48) = true ∧ decide ((b.toNat : Int) > 57) = false ∧ decide ((b.toNat : Int) ≥ 97) = false ∧ decide ((b.toNat : Int) ≤ 122) = true ∧ decide ((b.toNat : Int) ≥ 48) = false ∧ decide ((b.toNat : Int) ≤ 57) = true ∧ letP b = false) ∨ (decide ((b.toNat : Int) < 97) = true ∧ decide ((b.toNat : Int) > 122) = false ∧ decide ((b.toNat : Int) < 48) = false ∧ decide ((b.toNat : Int) > 57) = false ∧ decide ((b.toNat : Int) ≥ 97) = false ∧ decide ((b.toNat : Int) ≤ 122) = true ∧ decide ((b.toNat : Int) ≥ 48) = true ∧ decide ((b.toNat : Int) ≤ 57) = true ∧ letP b = true) ∨ (decide ((b.toNat : Int) < 97) = true ∧ decide ((b.toNat : Int) > 122) = false ∧ decide ((b.toNat : Int) < 48) = false ∧ decide ((b.toNat : Int) > 57) = true ∧ decide ((b.toNat : Int) ≥ 97) = false ∧ decide ((b.toNat : Int) ≤ 122) = true ∧ decide ((b.toNat : Int) ≥ 48) = true ∧ decide ((b.toNat : Int) ≤ 57) = false ∧ letP b = false) ∨ (decide ((b.toNat : Int) < 97) = false ∧ decide ((b.toNat : Int) > 122) = false ∧ decide ((b.toNat : Int) < 48) = false ∧ decide ((b.toNat : Int) > 57) = true ∧ decide ((b.toNat : Int) ≥ 97) = true ∧ decide ((b.toNat : Int) ≤ 122) = true ∧ decide ((b.toNat : Int) ≥ 48) = true ∧ decide ((b.toNat : Int) ≤ 57) = false ∧ letP b = true) ∨ (decide ((b.toNat : Int) < 97) = false ∧ decide ((b.toNat : Int) > 122) = true ∧ decide ((b.toNat : Int) < 48) = false ∧ decide ((b.toNat : Int) > 57) = true ∧ decide ((b.toNat : Int) ≥ 97) = true ∧ decide ((b.toNat : Int) ≤ 122) = false ∧ decide ((b.toNat : Int) ≥ 48) = true ∧ decide ((b.toNat : Int) ≤ 57) = false ∧ letP b = false) := by
  have h : b.toNat < 48 ∨ (48 ≤ b.toNat ∧ b.toNat ≤ 57) ∨ (57 < b.toNat ∧ b.toNat < 97) ∨ (97 ≤ b.toNat ∧ b.toNat ≤ 122) ∨ 122 < b.toNat := by omega
  simp only [letP, decide_eq_true_eq, decide_eq_false_iff_not, Bool.not_eq_true', Bool.not_eq_false', Bool.and_eq_true, Bool.or_eq_true, Bool.and_eq_false_iff, Bool.or_eq_false_iff]
  omega
def allP (p : UInt8 → Bool) (s : ByteArray) : Bool := s.data.toList.all p
/-- A part of a name: one byte or more, each a to z or 0 to 9. -/
def plainB (s : ByteArray) : Bool := !(isE s) && allP letP s
def UptoP (p : UInt8 → Bool) (s : ByteArray) (i : Nat) : Prop := ∀ j b, j < i → s[j]? = some b → p b = true
theorem UptoP.succ {p : UInt8 → Bool} {s : ByteArray} {i : Nat} {b : UInt8} (h : UptoP p s i) (hb : s[i]? = some b) (hl : p b = true) : UptoP p s (i + 1) := by
  intro j c hj hc
  by_cases e : j = i
  · subst e; rw [hb] at hc; cases hc; exact hl
  · exact h j c (by omega) hc
theorem UptoP.all {p : UInt8 → Bool} {s : ByteArray} {i : Nat} (h : UptoP p s i) (hi : s.size ≤ i) : allP p s = true := by
  unfold allP
  rw [List.all_eq_true]
  intro b hb
  obtain ⟨j, hj, rfl⟩ := List.getElem_of_mem hb
  have hj' : j < s.size := by simpa using hj
  refine h j _ (by omega) ?_
  have : s[j]? = s.data[j]? := rfl
  rw [this, Array.getElem?_eq_getElem hj']
  simp
theorem UptoP.plain {s : ByteArray} {i : Nat} (h : UptoP letP s i) (hi : s.size ≤ i) : plainB s = !(isE s) := by
  rw [plainB, h.all hi, Bool.and_true]
theorem plain_not {s : ByteArray} {i : Nat} {b : UInt8} (hb : s[i]? = some b) (hl : letP b = false) : plainB s = false := by
  have : allP letP s = false := by
    rw [allP, List.all_eq_false]
    refine ⟨b, Array.mem_toList_iff.2 (Array.mem_of_getElem? (i := i) hb), by rw [hl]; simp⟩
  rw [plainB, this, Bool.and_false]
theorem c_impl_plainPart (s : ByteArray) (hs : s.size < 4611686018427387904) : Sound P 21 [.str s] (.bool (plainB s)) := by
  have he : (s.toList == ByteArray.toList { data := #[] }) = isE s := rfl
  refine snd_b hT Tryd.func21 Tryd.results21 Tryd.ntmps21 ?_
  repeat' (first | refine one ?_ | (refine two ?_ ?_; all_goals (intro h; try simp only [Bool.not_eq_true', Bool.not_eq_false', reduceCtorEq] at h)) | fail)
  refine aw_loop [1, 3, 4, 7, 8, 9, 10, 11, 12, 13, 14, 15, 16, 17, 18, 19, 20, 21, 22, 23, 24, 25, 26, 27, 28, 29, 30, 31, 32, 33] (fun n S => ∃ i : Nat, n = s.size - i ∧ i ≤ s.size ∧ UptoP letP s i ∧ S = [.str s, .undef, .bool false, .undef, .undef, .int .i64 s.size, .int .i64 i, .undef, .undef, .undef, .undef, .undef, .undef, .undef, .undef, .undef, .undef, .undef, .undef, .undef, .undef, .undef, .undef, .undef, .undef, .undef, .undef, .undef, .undef, .undef, .undef, .undef, .undef, .undef]) s.size ?_ ?_
  · refine ⟨0, by simp, by omega, fun j b hj => by omega, ?_⟩
    (rw [clr_eq]; rotate_left; rfl; simp only [keepB, go_sem, Nat.reduceBEq, Nat.reduceAdd, cond_true, cond_false, *]; simp only [clrG, Nat.reduceBEq, Nat.reduceAdd, cond_true, cond_false])
    first | done | rfl
  rintro n S ⟨i, hn, hi, hl, rfl⟩
  have hw : IntKind.i64.wrap ((i : Int) + 1) = ((i + 1 : Nat) : Int) := by rw [wrap_small] <;> omega
  by_cases hlt : i < s.size
  · have hd : decide ((i : Int) < (s.size : Int)) = true := decide_eq_true (by omega)
    obtain ⟨b, hb⟩ := byte_at hlt
    rcases letP_cases b with ⟨c1, c2, c3, c4, c5, c6, c7, c8, cr⟩ | ⟨c1, c2, c3, c4, c5, c6, c7, c8, cr⟩ | ⟨c1, c2, c3, c4, c5, c6, c7, c8, cr⟩ | ⟨c1, c2, c3, c4, c5, c6, c7, c8, cr⟩ | ⟨c1, c2, c3, c4, c5, c6, c7, c8, cr⟩
    · have hp := plain_not hb cr
      rw [hp]
      clear hl hp cr hn
      exact wFnNb21_0
    · have hl' := hl.succ hb cr
      clear hl cr
      repeat' (first | refine one ?_ | (refine two ?_ ?_; all_goals (intro h; try simp only [Bool.not_eq_true', Bool.not_eq_false', reduceCtorEq] at h)) | fail)
      all_goals (
        refine ⟨s.size - (i + 1), by omega, i + 1, rfl, by omega, hl', ?_⟩
        clear hl'
        (rw [clr_eq]; rotate_left; rfl; simp only [keepB, go_sem, Nat.reduceBEq, Nat.reduceAdd, cond_true, cond_false, *]; simp only [clrG, Nat.reduceBEq, Nat.reduceAdd, cond_true, cond_false])
        first | done | rfl)
    · have hp := plain_not hb cr
      rw [hp]
      clear hl hp cr hn
      exact wFnNb21_0
    · have hl' := hl.succ hb cr
      clear hl cr
      repeat' (first | refine one ?_ | (refine two ?_ ?_; all_goals (intro h; try simp only [Bool.not_eq_true', Bool.not_eq_false', reduceCtorEq] at h)) | fail)
      all_goals (
        refine ⟨s.size - (i + 1), by omega, i + 1, rfl, by omega, hl', ?_⟩
        clear hl'
        (rw [clr_eq]; rotate_left; rfl; simp only [keepB, go_sem, Nat.reduceBEq, Nat.reduceAdd, cond_true, cond_false, *]; simp only [clrG, Nat.reduceBEq, Nat.reduceAdd, cond_true, cond_false])
        first | done | rfl)
    · have hp := plain_not hb cr
      rw [hp]
      clear hl hp cr hn
      exact wFnNb21_0
  have hd : decide ((i : Int) < (s.size : Int)) = false := decide_eq_false (by omega)
  have hp := hl.plain (by omega)
  rw [hp]
  clear hl hp hn
  repeat' (first | refine one ?_ | (refine two ?_ ?_; all_goals (intro h; try simp only [Bool.not_eq_true', Bool.not_eq_false', reduceCtorEq] at h)) | fail)
  all_goals ((simp only [go_sem, *]); first | done | rfl | simp [bne, he])
noncomputable abbrev ic_impl_plainPart := Con.mk (P := P) (f := 21) Tryd.call21 @c_impl_plainPart
attribute [instance] ic_impl_plainPart
theorem c_spec_l11Plain (s : ByteArray) (hs : s.size < 4611686018427387904) : Sound P 28 [.str s] (.bool (plainB s)) := by
  have he : (s.toList == ByteArray.toList { data := #[] }) = isE s := rfl
  cases hE : isE s with
  | true =>
    rw [hE] at he
    rw [plainB, hE]
    exact wFnNb28_0
  | false =>
  rw [hE] at he
  refine snd_b hT Tryd.func28 Tryd.results28 Tryd.ntmps28 ?_
  repeat' (first | refine one ?_ | (refine two ?_ ?_; all_goals (intro h; try simp only [Bool.not_eq_true', Bool.not_eq_false', reduceCtorEq] at h)) | fail)
  refine aw_loop [1, 4, 5, 6, 7, 8, 9, 10, 11, 12, 13, 14, 15, 16, 17, 18, 19, 20, 21, 22, 23, 24, 25, 26, 27, 28, 29, 30, 31, 32, 33, 34] (fun n S => ∃ i : Nat, n = s.size - i ∧ i ≤ s.size ∧ UptoP letP s i ∧ S = [.str s, .undef, .bool false, .int .i64 i, .undef, .undef, .undef, .undef, .undef, .undef, .undef, .undef, .undef, .undef, .undef, .undef, .undef, .undef, .undef, .undef, .undef, .undef, .undef, .undef, .undef, .undef, .undef, .undef, .undef, .undef, .undef, .undef, .undef, .undef, .undef]) s.size ?_ ?_
  · refine ⟨0, by simp, by omega, fun j b hj => by omega, ?_⟩
    (rw [clr_eq]; rotate_left; rfl; simp only [keepB, go_sem, Nat.reduceBEq, Nat.reduceAdd, cond_true, cond_false, *]; simp only [clrG, Nat.reduceBEq, Nat.reduceAdd, cond_true, cond_false])
    first | done | rfl
  rintro n S ⟨i, hn, hi, hl, rfl⟩
  have hw : IntKind.i64.wrap ((i : Int) + 1) = ((i + 1 : Nat) : Int) := by rw [wrap_small] <;> omega
  by_cases hlt : i < s.size
  · have hd : decide ((i : Int) < (s.size : Int)) = true := decide_eq_true (by omega)
    obtain ⟨b, hb⟩ := byte_at hlt
    rcases letP_cases b with ⟨c1, c2, c3, c4, c5, c6, c7, c8, cr⟩ | ⟨c1, c2, c3, c4, c5, c6, c7, c8, cr⟩ | ⟨c1, c2, c3, c4, c5, c6, c7, c8, cr⟩ | ⟨c1, c2, c3, c4, c5, c6, c7, c8, cr⟩ | ⟨c1, c2, c3, c4, c5, c6, c7, c8, cr⟩
    · have hp := plain_not hb cr
      rw [hp]
      clear hl hp cr hn
      exact wFnNb28_1
    · have hl' := hl.succ hb cr
      clear hl cr
      repeat' (first | refine one ?_ | (refine two ?_ ?_; all_goals (intro h; try simp only [Bool.not_eq_true', Bool.not_eq_false', reduceCtorEq] at h)) | fail)
      all_goals (
        refine ⟨s.size - (i + 1), by omega, i + 1, rfl, by omega, hl', ?_⟩
        clear hl'
        (rw [clr_eq]; rotate_left; rfl; simp only [keepB, go_sem, Nat.reduceBEq, Nat.reduceAdd, cond_true, cond_false, *]; simp only [clrG, Nat.reduceBEq, Nat.reduceAdd, cond_true, cond_false])
        first | done | rfl)
    · have hp := plain_not hb cr
      rw [hp]
      clear hl hp cr hn
      exact wFnNb28_1
    · have hl' := hl.succ hb cr
      clear hl cr
      repeat' (first | refine one ?_ | (refine two ?_ ?_; all_goals (intro h; try simp only [Bool.not_eq_true', Bool.not_eq_false', reduceCtorEq] at h)) | fail)
      all_goals (
        refine ⟨s.size - (i + 1), by omega, i + 1, rfl, by omega, hl', ?_⟩
        clear hl'
        (rw [clr_eq]; rotate_left; rfl; simp only [keepB, go_sem, Nat.reduceBEq, Nat.reduceAdd, cond_true, cond_false, *]; simp only [clrG, Nat.reduceBEq, Nat.reduceAdd, cond_true, cond_false])
        first | done | rfl)
    · have hp := plain_not hb cr
      rw [hp]
      clear hl hp cr hn
      exact wFnNb28_1
  have hd : decide ((i : Int) < (s.size : Int)) = false := decide_eq_false (by omega)
  have hp := hl.plain (by omega)
  rw [hp]
  clear hl hp hn
  repeat' (first | refine one ?_ | (refine two ?_ ?_; all_goals (intro h; try simp only [Bool.not_eq_true', Bool.not_eq_false', reduceCtorEq] at h)) | fail)
  all_goals ((simp only [go_sem, *]); first | done | rfl | simp [hE])
noncomputable abbrev ic_spec_l11Plain := Con.mk (P := P) (f := 28) Tryd.call28 @c_spec_l11Plain
attribute [instance] ic_spec_l11Plain
end Go.Proofs.YtffpfjnakhpheaaDoor
