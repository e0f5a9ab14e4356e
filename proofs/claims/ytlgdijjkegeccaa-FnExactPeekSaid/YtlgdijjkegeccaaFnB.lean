/- Contracts: parts of names, terms. -/
import Derived.Test.YtlgdijjkegeccaaFnA
namespace Go.Proofs.Ytlgdijjkegeccaa
open Go Go.RowKit Go.Bv
set_option linter.unusedSimpArgs false
set_option linter.unusedVariables false
set_option maxRecDepth 4000

def letB (b : UInt8) : Bool := !(decide ((b.toNat : Int) < 97)) && !(decide ((b.toNat : Int) > 122))
def letters (s : ByteArray) : Bool := s.data.toList.all letB
def partB (s : ByteArray) : Bool := decide ((s.size : Int) ≥ 1) && decide ((s.size : Int) ≤ 10) && letters s
theorem letters_at {s : ByteArray} {i : Nat} {b : UInt8} (h : s[i]? = some b) (hl : letters s = true) : letB b = true := by
  unfold letters at hl
  rw [List.all_eq_true] at hl
  refine hl b ?_
  have : s.data[i]? = some b := by
    rw [← h]; rfl
  exact Array.mem_toList_iff.2 (Array.mem_of_getElem? this)
theorem letters_of {s : ByteArray} (h : ∀ j b, j < s.size → s[j]? = some b → letB b = true) : letters s = true := by
  unfold letters
  rw [List.all_eq_true]
  intro b hb
  obtain ⟨j, hj, rfl⟩ := List.getElem_of_mem hb
  have hj' : j < s.size := by simpa using hj
  refine h j _ hj' ?_
  have : s[j]? = s.data[j]? := rfl
  rw [this, Array.getElem?_eq_getElem hj']
  simp
theorem byte_at {s : ByteArray} {i : Nat} (h : i < s.size) : ∃ b, s[i]? = some b := ⟨s[i], by simp [h]⟩

def Upto (s : ByteArray) (i : Nat) : Prop := ∀ j b, j < i → s[j]? = some b → letB b = true
theorem Upto.succ {s : ByteArray} {i : Nat} {b : UInt8} (h : Upto s i) (hb : s[i]? = some b) (hl : letB b = true) : Upto s (i + 1) := by
  intro j c hj hc
  by_cases e : j = i
  · subst e; rw [hb] at hc; cases hc; exact hl
  · exact h j c (by omega) hc
theorem Upto.all {s : ByteArray} {i : Nat} (h : Upto s i) (hi : s.size ≤ i) : letters s = true := letters_of fun j b hj hb => h j b (by omega) hb
theorem part_not {s : ByteArray} {i : Nat} {b : UInt8} (hb : s[i]? = some b) (hl : letB b = false) : letters s = false := by
  cases h : letters s with
  | false => rfl
  | true => rw [letters_at hb h] at hl; cases hl
theorem c_spec_l8Part (s : ByteArray) (hs : s.size < 4611686018427387904) : Sound P 155 [.str s] (.bool (partB s)) := by
  refine snd_b hT Try.func155 Try.results155 Try.ntmps155 ?_
  repeat' (first | refine one ?_ | (refine two ?_ ?_; all_goals (intro h; try simp only [Bool.not_eq_true', Bool.not_eq_false', reduceCtorEq] at h)) | fail)
  · (simp only [go_sem, *])
    first | done | simp [partB, h]
  · have h0 := h
    clear h
    refine aw_loop [1, 4, 5, 6, 7, 8, 9, 10, 11, 12, 13, 14, 15, 16, 17, 18, 19, 20, 21, 22, 23] (fun n S => ∃ i : Nat, n = s.size - i ∧ i ≤ s.size ∧ Upto s i ∧ S = [.str s, .undef, .bool false, .int .i64 i, .undef, .undef, .undef, .undef, .undef, .undef, .undef, .undef, .undef, .undef, .undef, .undef, .undef, .undef, .undef, .undef, .undef, .undef, .undef, .undef]) s.size ?_ ?_
    · refine ⟨0, by simp, by omega, fun j b hj => by omega, ?_⟩
      simp only [clr, go_sem]
      first | done | rfl
    · rintro n S ⟨i, hn, hi, hl, rfl⟩
      have hw : IntKind.i64.wrap ((i : Int) + 1) = ((i + 1 : Nat) : Int) := by rw [wrap_small] <;> omega
      by_cases hlt : i < s.size
      · have hd : decide ((i : Int) < (s.size : Int)) = true := by simp [hlt]
        obtain ⟨b, hb⟩ := byte_at hlt
        repeat' (first | refine one ?_ | (refine two ?_ ?_; all_goals (intro h; try simp only [Bool.not_eq_true', Bool.not_eq_false', reduceCtorEq] at h)) | fail)
        · (simp only [go_sem, *])
          have hp : partB s = false := by rw [partB, part_not hb (by simp [letB, *])]; simp
          rw [hp]
        · refine ⟨s.size - (i + 1), by omega, i + 1, rfl, by omega, hl.succ hb (by simp [letB, *]), ?_⟩
          simp only [clr, go_sem, hw]
        · (simp only [go_sem, *])
          have hp : partB s = false := by rw [partB, part_not hb (by simp [letB, *])]; simp
          rw [hp]
      · have hd : decide ((i : Int) < (s.size : Int)) = false := by simp; omega
        repeat' (first | refine one ?_ | (refine two ?_ ?_; all_goals (intro h; try simp only [Bool.not_eq_true', Bool.not_eq_false', reduceCtorEq] at h)) | fail)
        (simp only [go_sem, *])
        have hp : partB s = true := by rw [partB, hl.all (by omega)]; simpa using h0
        rw [hp]

noncomputable abbrev ic_spec_l8Part := Con.mk (P := P) (f := 155) Try.call155 @c_spec_l8Part
attribute [instance] ic_spec_l8Part
theorem c_impl_partOk (s : ByteArray) (hs : s.size < 4611686018427387904) : Sound P 158 [.str s] (.bool (partB s)) := by
  refine snd_b hT Try.func158 Try.results158 Try.ntmps158 ?_
  repeat' (first | refine one ?_ | (refine two ?_ ?_; all_goals (intro h; try simp only [Bool.not_eq_true', Bool.not_eq_false', reduceCtorEq] at h)) | fail)
  · refine aw_loop [1, 3, 4, 7, 8, 9, 10, 11, 12, 13, 14, 15, 16, 17, 18, 19, 20, 21, 22] (fun n S => ∃ i : Nat, n = s.size - i ∧ i ≤ s.size ∧ Upto s i ∧ S = [.str s, .undef, .bool false, .undef, .undef, .int .i64 s.size, .int .i64 i, .undef, .undef, .undef, .undef, .undef, .undef, .undef, .undef, .undef, .undef, .undef, .undef, .undef, .undef, .undef, .undef]) s.size ?_ ?_
    · refine ⟨0, by simp, by omega, fun j b hj => by omega, ?_⟩
      simp only [clr, go_sem]
      first | done | rfl
    · rintro n S ⟨i, hn, hi, hl, rfl⟩
      have hw : IntKind.i64.wrap ((i : Int) + 1) = ((i + 1 : Nat) : Int) := by rw [wrap_small] <;> omega
      by_cases hlt : i < s.size
      · have hd : decide ((i : Int) < (s.size : Int)) = true := by simp [hlt]
        obtain ⟨b, hb⟩ := byte_at hlt
        repeat' (first | refine one ?_ | (refine two ?_ ?_; all_goals (intro h; try simp only [Bool.not_eq_true', Bool.not_eq_false', reduceCtorEq] at h)) | fail)
        · (simp only [go_sem, *])
          have hp : partB s = false := by rw [partB, part_not hb (by simp [letB, *])]; simp
          rw [hp]
        · refine ⟨s.size - (i + 1), by omega, i + 1, rfl, by omega, hl.succ hb (by simp [letB, *]), ?_⟩
          simp only [clr, go_sem, hw]
        · (simp only [go_sem, *])
          have hp : partB s = false := by rw [partB, part_not hb (by simp [letB, *])]; simp
          rw [hp]
      · have hd : decide ((i : Int) < (s.size : Int)) = false := by simp; omega
        repeat' (first | refine one ?_ | (refine two ?_ ?_; all_goals (intro h; try simp only [Bool.not_eq_true', Bool.not_eq_false', reduceCtorEq] at h)) | fail)
        (simp only [go_sem, *])
        have hp : partB s = (decide ((s.size : Int) ≥ 1) && decide ((s.size : Int) ≤ 10)) := by rw [partB, hl.all (by omega)]; simp
        rw [hp]
noncomputable abbrev ic_impl_partOk := Con.mk (P := P) (f := 158) Try.call158 @c_impl_partOk
attribute [instance] ic_impl_partOk
end Go.Proofs.Ytlgdijjkegeccaa
