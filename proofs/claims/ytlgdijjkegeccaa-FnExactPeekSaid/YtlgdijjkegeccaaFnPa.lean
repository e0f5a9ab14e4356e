/- Contracts: what one term says of a message. -/
import Derived.Test.YtlgdijjkegeccaaFnD
import Derived.Test.YtlgdijjkegeccaaFnY
import Derived.Test.YtlgdijjkegeccaaBvLs
import Derived.Test.YtlgdijjkegeccaaBvM5
import Derived.Test.YtlgdijjkegeccaaShelf
import Derived.Laws.Strings
namespace Go.Proofs.Ytlgdijjkegeccaa
open Go Go.RowKit Go.Bv
set_option linter.unusedSimpArgs false
set_option linter.unusedVariables false
set_option maxRecDepth 4000
set_option maxHeartbeats 1000000
/-! The walks that end. -/
theorem wFnPa150_0 {p : Prop} (h : p := by
  exact wk) : p := h

def startsS (s p : ByteArray) : Bool := Lib.hasPrefix s.data.toList p.data.toList
def holdsS (s p : ByteArray) : Bool := Lib.contains s.data.toList p.data.toList
theorem c_strings_HasPrefix (s p : ByteArray) : Sound P 151 [.str s, .str p] (.bool (startsS s p)) :=
  sound_str2 (c := .bool (startsS s p)) rfl (by simp [Ok]) (by simp [NR, Pl]) fun w _ => Try.strings_HasPrefix s p w
noncomputable abbrev ic_strings_HasPrefix := Con.mk (P := P) (f := 151) Try.call151 @c_strings_HasPrefix
attribute [instance] ic_strings_HasPrefix
theorem c_strings_Contains (s p : ByteArray) (hs : s.size < 4294967281) : Sound P 152 [.str s, .str p] (.bool (holdsS s p)) :=
  sound_str2 (c := .bool (holdsS s p)) rfl (by simp [Ok]) (by simp [NR, Pl]) fun w hw => by
    obtain ⟨m, hm⟩ := hw.maxLen (g := 0) (by kernel_rfl)
    exact Try.strings_Contains s p m w hs hm
noncomputable abbrev ic_strings_Contains := Con.mk (P := P) (f := 152) Try.call152 @c_strings_Contains
attribute [instance] ic_strings_Contains
theorem size_list (s : ByteArray) : s.data.toList.length = s.size := Array.length_toList
theorem ext_list (s : ByteArray) (a b : Nat) : (s.extract a b).toList = (s.data.toList.drop a).take (b - a) := by
  rw [ByteArray.toList_eq]
  simp [ByteArray.data_extract, Array.toList_extract, List.extract_eq_take_drop]
theorem starts_long {s p : ByteArray} (h : ¬ p.size ≤ s.size) : startsS s p = false := by
  rw [startsS, Lib.hasPrefix, ← Bool.not_eq_true, List.isPrefixOf_iff_prefix]
  intro hp
  have := hp.length_le
  rw [size_list, size_list] at this
  exact h this
theorem starts_ext {s p : ByteArray} (h : p.size ≤ s.size) : ((s.extract 0 p.size).toList == p.toList) = startsS s p := by
  have := Lib.occAt_iff_take s.data.toList p.data.toList 0 (by rw [size_list, size_list]; omega)
  rw [Lib.occAt, List.drop_zero, size_list] at this
  rw [startsS, Lib.hasPrefix, this, ext_list, ByteArray.toList_eq, List.drop_zero, Nat.sub_zero]
/-- No instance begins ahead of i. -/
def NoneUpto (s p : ByteArray) (i : Nat) : Prop := ∀ j, j < i → Lib.occAt s.data.toList p.data.toList j = false
theorem occ_ext {s p : ByteArray} {i : Nat} (h : i + p.size ≤ s.size) : ((s.extract i (i + p.size)).toList == p.toList) = Lib.occAt s.data.toList p.data.toList i := by
  rw [Lib.occAt_iff_take _ _ _ (by rw [size_list, size_list]; exact h), ext_list, ByteArray.toList_eq p, size_list, Nat.add_sub_cancel_left]
theorem holds_at {s p : ByteArray} {i : Nat} (hi : i ≤ s.size) (hn : NoneUpto s p i) (h : Lib.occAt s.data.toList p.data.toList i = true) : holdsS s p = true := by
  rw [holdsS, Lib.contains, Lib.index_first (by rw [size_list]; exact hi) h hn]
  exact decide_eq_true (by omega)
theorem holds_not {s p : ByteArray} {i : Nat} (hp : p.data.toList ≠ []) (hn : NoneUpto s p i) (hi : s.size < i + p.size) : holdsS s p = false := by
  have : Lib.index s.data.toList p.data.toList = -1 := Lib.index_none fun j hj => by
    cases hc : Lib.occAt s.data.toList p.data.toList j with
    | false => rfl
    | true =>
      rcases Lib.occAt_room hc with h | h
      · rw [size_list, size_list] at h
        rw [hn j (by omega)] at hc; cases hc
      · exact absurd h hp
  rw [holdsS, Lib.contains, this]; rfl
theorem c_spec_l8Holds (s p : ByteArray) (hs : s.size < 4611686018427387904) (hps : p.size < 4611686018427387904) (hp : p.data.toList ≠ []) : Sound P 150 [.str s, .str p] (.bool (holdsS s p)) := by
  have hp1 : 0 < p.size := by rw [← size_list]; exact List.length_pos_iff.2 hp
  refine snd_b hT Try.func150 Try.results150 Try.ntmps150 ?_
  repeat' (first | refine one ?_ | (refine two ?_ ?_; all_goals (intro h; try simp only [Bool.not_eq_true', Bool.not_eq_false', reduceCtorEq] at h)) | fail)
  refine aw_loop [2, 3, 6, 7, 8, 9, 10, 11, 12, 13, 14, 15, 16, 17, 18, 19, 20, 21, 22, 23] (fun n S => ∃ i : Nat, n = s.size + 1 - i ∧ i ≤ s.size + 1 ∧ NoneUpto s p i ∧ S = [.str s, .str p, .undef, .undef, .bool false, .int .i64 i, .undef, .undef, .undef, .undef, .undef, .undef, .undef, .undef, .undef, .undef, .undef, .undef, .undef, .undef, .undef, .undef, .undef, .undef]) (s.size + 1) ?_ ?_
  · refine ⟨0, by simp, by omega, fun j hj => by omega, ?_⟩
    simp only [clr, go_sem]
    first | done | rfl
  rintro n S ⟨i, hn, hi, hno, rfl⟩
  have w1 : IntKind.i64.wrap ((i : Int) + 1) = ((i + 1 : Nat) : Int) := by rw [wrap_small] <;> omega
  have w2 : IntKind.i64.wrap ((i : Int) + (p.size : Int)) = ((i + p.size : Nat) : Int) := by rw [wrap_small] <;> omega
  by_cases hlt : i + p.size ≤ s.size
  · have hd : decide (((i + p.size : Nat) : Int) ≤ (s.size : Int)) = true := decide_eq_true (by omega)
    have he := occ_ext hlt
    have hi0 : (0 : Int) ≤ (i : Int) := by omega
    have hi1 : (i : Int) ≤ ((i + p.size : Nat) : Int) := by omega
    have hi2 : (0 : Int) ≤ ((i + p.size : Nat) : Int) := by omega
    have hi3 : ((i + p.size : Nat) : Int) ≤ (s.size : Int) := by omega
    cases ho : Lib.occAt s.data.toList p.data.toList i with
    | true =>
      have hv := holds_at (by omega) hno ho
      rw [ho] at he
      rw [hv]
      clear hno ho hv hp hn
      exact wFnPa150_0
    | false =>
      rw [ho] at he
      have hno' : NoneUpto s p (i + 1) := fun j hj => by
        rcases Nat.lt_or_ge j i with h | h
        · exact hno j h
        · rw [show j = i by omega]; exact ho
      clear hno ho hp
      repeat' (first | refine one ?_ | (refine two ?_ ?_; all_goals (intro h; try simp only [Bool.not_eq_true', Bool.not_eq_false', reduceCtorEq] at h)) | fail)
      all_goals (
        refine ⟨s.size + 1 - (i + 1), by omega, i + 1, rfl, by omega, hno', ?_⟩
        simp only [clr, go_sem]
        first | done | rfl)
  · have hd : decide (((i + p.size : Nat) : Int) ≤ (s.size : Int)) = false := decide_eq_false (by omega)
    have hv := holds_not hp hno (by omega)
    rw [hv]
    clear hno hv hp hn
    exact wFnPa150_0
noncomputable abbrev ic_spec_l8Holds := Con.mk (P := P) (f := 150) Try.call150 @c_spec_l8Holds
attribute [instance] ic_spec_l8Holds
/-- What a term that takes none says. -/
def saysB (t : TermV) (m : MsgV) : Bool :=
  if t.op = 2 then m.kind == 1
  else if t.op = 3 then m.kind == 2
  else if t.op = 4 then m.kind == 1 && decide (m.num < t.num)
  else if t.op = 5 then m.kind == 1 && m.num.tmod t.num == 0
  else if t.op = 6 then m.kind == 2 && startsS m.text t.text
  else if t.op = 7 then m.kind == 2 && holdsS m.text t.text
  else true
theorem msg_kind {m : MsgV} (h : msgB m = true) : m.kind = 1 ∨ (m.kind = 2 ∧ m.text.size ≤ 40) := by
  unfold msgB at h
  split at h
  · exact .inl ‹_›
  · split at h
    · simp only [Bool.and_eq_true, decide_eq_true_eq] at h
      exact .inr ⟨‹_›, by omega⟩
    · cases h
theorem part_ne {s : ByteArray} (h : partB s = true) : s.data.toList ≠ [] ∧ s.size ≤ 10 := by
  simp only [partB, Bool.and_eq_true, decide_eq_true_eq] at h
  refine ⟨fun e => ?_, by omega⟩
  have := size_list s
  rw [e] at this
  simp at this
  omega
end Go.Proofs.Ytlgdijjkegeccaa
