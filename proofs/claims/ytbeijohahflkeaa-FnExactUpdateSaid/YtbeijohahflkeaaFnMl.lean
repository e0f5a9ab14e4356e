/- Contracts: which of two messages is less. -/
import Derived.Test.YtbeijohahflkeaaFnY
import Derived.Test.YtbeijohahflkeaaBvLs
import Derived.Test.YtbeijohahflkeaaBvM5
import Derived.Test.YtbeijohahflkeaaShelfB
namespace Go.Proofs.Ytbeijohahflkeaa
open Go Go.RowKit Go.Bv
set_option linter.unusedSimpArgs false
set_option linter.unusedVariables false
set_option maxRecDepth 4000
set_option maxHeartbeats 4000000
/-! The walks that end. -/
theorem wFnMl57_0 {p : Prop} (h : p := by
  refine snd_b hT Try.func57 Try.results57 Try.ntmps57 ?_
  exact wk) : p := h
theorem wFnMl50_0 {p : Prop} (h : p := by
  refine snd_b hT Try.func50 Try.results50 Try.ntmps50 ?_
  exact wk) : p := h
theorem wFnMl39_0 {p : Prop} (h : p := by
  have E0 := @encMsg.eq_1
  refine snd_b hT Try.func39 Try.results39 Try.ntmps39 ?_
  exact wk) : p := h
theorem wFnMl33_0 {p : Prop} (h : p := by
  have E0 := @encMsg.eq_1
  refine snd_b hT Try.func33 Try.results33 Try.ntmps33 ?_
  exact wk) : p := h

def cmpI (a b : Int) : Int := if a < b then -1 else if a > b then 1 else 0
def cmpS (a b : ByteArray) : Int := Lib.compareBytes a.data.toList b.data.toList
theorem cmp_less : ∀ x y : List UInt8, decide (Lib.compareBytes x y < 0) = Go.Op.bytesLess x y
  | [], [] => rfl
  | [], _ :: _ => rfl
  | _ :: _, [] => rfl
  | a :: x, b :: y => by
    have ih := cmp_less x y
    simp only [Lib.compareBytes, Go.Op.bytesLess]
    by_cases h1 : a < b
    · simp [h1]
    · by_cases h2 : b < a
      · have : (a == b) = false := by rw [beq_eq_false_iff_ne]; intro e; subst e; exact h1 h2
        simp [h1, h2, this]
      · have : a = b := UInt8.le_antisymm (UInt8.not_lt.1 h2) (UInt8.not_lt.1 h1)
        subst this
        simp [ih]
theorem cmpS_less (a b : ByteArray) : decide (cmpS a b < 0) = ltS a b := by rw [cmpS, cmp_less, ltS, ByteArray.toList_eq, ByteArray.toList_eq]
theorem c_cmp_isNaN_int (n : Int) : Sound P 57 [.int .i64 n] (.bool false) := by
  have h : (n == n) = true := by simp
  exact wFnMl57_0
noncomputable abbrev ic_cmp_isNaN_int := Con.mk (P := P) (f := 57) Try.call57 @c_cmp_isNaN_int
attribute [instance] ic_cmp_isNaN_int
theorem c_cmp_Compare_int (a b : Int) : Sound P 50 [.int .i64 a, .int .i64 b] (.int .i64 (cmpI a b)) := by
  rcases (by omega : a < b ∨ a > b ∨ a = b) with h | h | h
  · have h1 : decide (a < b) = true := decide_eq_true h
    rw [show cmpI a b = -1 by rw [cmpI, if_pos h]]
    clear h
    exact wFnMl50_0
  · have h1 : decide (a < b) = false := decide_eq_false (by omega)
    have h2 : decide (a > b) = true := decide_eq_true h
    rw [show cmpI a b = 1 by rw [cmpI, if_neg (by omega), if_pos h]]
    clear h
    exact wFnMl50_0
  · have h1 : decide (a < b) = false := decide_eq_false (by omega)
    have h2 : decide (a > b) = false := decide_eq_false (by omega)
    rw [show cmpI a b = 0 by rw [cmpI, if_neg (by omega), if_neg (by omega)]]
    clear h
    exact wFnMl50_0
noncomputable abbrev ic_cmp_Compare_int := Con.mk (P := P) (f := 50) Try.call50 @c_cmp_Compare_int
attribute [instance] ic_cmp_Compare_int
theorem c_strings_Compare (a b : ByteArray) : Sound P 51 [.str a, .str b] (.int .i64 (cmpS a b)) :=
  sound_str2 (c := .int .i64 (cmpS a b)) rfl (by simp [Ok]) (by simp [NR, Pl]) fun w _ => Try.strings_Compare a b w
noncomputable abbrev ic_strings_Compare := Con.mk (P := P) (f := 51) Try.call51 @c_strings_Compare
attribute [instance] ic_strings_Compare
def lessM (a b : MsgV) : Bool := if a.kind = b.kind then (if a.kind = 1 then decide (a.num < b.num) else ltS a.text b.text) else decide (a.kind < b.kind)
def lessB (a b : MsgV) : Bool := msgB a && msgB b && lessM a b
theorem msg_one {m : MsgV} (h : msgB m = true) (hk : m.kind = 1) : m.text = { data := #[] } ∧ -999999999 ≤ m.num ∧ m.num ≤ 999999999 := by
  simp only [msgB, hk, if_true, isE, Bool.and_eq_true, decide_eq_true_eq, beq_iff_eq] at h
  refine ⟨?_, by omega, by omega⟩
  have := h.2
  rw [ByteArray.toList_eq, ByteArray.toList_eq] at this
  apply ByteArray.ext
  exact Array.toList_inj.1 (by simpa using this)
theorem msg_two {m : MsgV} (h : msgB m = true) (hk : m.kind ≠ 1) : m.kind = 2 ∧ m.num = 0 ∧ m.text.size ≤ 40 := by
  unfold msgB at h
  rw [if_neg hk] at h
  split at h
  · rename_i h2
    simp only [Bool.and_eq_true, decide_eq_true_eq, beq_iff_eq] at h
    exact ⟨h2, h.1.1, by omega⟩
  · cases h
theorem c_impl_MsgLess (a b : MsgV) {u v : AV} (hu : u = encMsg false a) (hv : v = encMsg false b) (ha : okMsg a) (hb : okMsg b) : Sound P 39 [u, v] (.bool (lessB a b)) := by
  subst hu hv
  have e0 : ((0 : Int) == 0) = true := rfl
  have e1 : ((1 : Int) == 0) = false := rfl
  have e2 : ((-1 : Int) == 0) = false := rfl
  have d0 : decide ((0 : Int) < 0) = false := rfl
  have d1 : decide ((1 : Int) < 0) = false := rfl
  have d2 : decide ((-1 : Int) < 0) = true := rfl
  obtain ⟨R, hR⟩ : ∃ R, lessB a b = R := ⟨_, rfl⟩
  rw [hR]
  unfold lessB at hR
  cases hA : msgB a
  rw [hA, Bool.false_and, Bool.false_and] at hR
  subst hR
  rotate_left
  cases hB : msgB b
  rw [hB, Bool.and_false, Bool.false_and] at hR
  subst hR
  rotate_left
  rw [hA, hB, Bool.and_self, Bool.true_and] at hR
  unfold lessM at hR
  rcases (by omega : a.kind < b.kind ∨ a.kind > b.kind ∨ a.kind = b.kind) with hk | hk | hk
  have k1 : cmpI a.kind b.kind = -1 := by rw [cmpI, if_pos hk]
  rw [if_neg (by omega), decide_eq_true hk] at hR
  subst hR
  clear hk
  rotate_left
  have k1 : cmpI a.kind b.kind = 1 := by rw [cmpI, if_neg (by omega), if_pos hk]
  rw [if_neg (by omega), decide_eq_false (by omega)] at hR
  subst hR
  clear hk
  rotate_left
  have k1 : cmpI a.kind b.kind = 0 := by rw [cmpI, if_neg (by omega), if_neg (by omega)]
  rw [if_pos hk] at hR
  by_cases h1 : a.kind = 1
  rw [if_pos h1] at hR
  obtain ⟨ta, _⟩ := msg_one hA h1
  obtain ⟨tb, _⟩ := msg_one hB (by omega)
  have ks : cmpS a.text b.text = 0 := by rw [ta, tb]; rfl
  rcases (by omega : a.num < b.num ∨ a.num > b.num ∨ a.num = b.num) with hn | hn | hn
  have n1 : cmpI a.num b.num = -1 := by rw [cmpI, if_pos hn]
  rw [decide_eq_true hn] at hR
  subst hR
  clear hn ta tb hk h1
  rotate_left
  have n1 : cmpI a.num b.num = 1 := by rw [cmpI, if_neg (by omega), if_pos hn]
  rw [decide_eq_false (by omega)] at hR
  subst hR
  clear hn ta tb hk h1
  rotate_left
  have n1 : cmpI a.num b.num = 0 := by rw [cmpI, if_neg (by omega), if_neg (by omega)]
  rw [decide_eq_false (by omega)] at hR
  subst hR
  clear hn ta tb hk h1
  rotate_left
  have n1 : cmpI a.num b.num = 0 := by
    have := (msg_two hA h1).2.1; have := (msg_two hB (by omega)).2.1
    rw [cmpI, if_neg (by omega), if_neg (by omega)]
  rw [if_neg h1, ← cmpS_less] at hR
  subst hR
  clear hk h1
  all_goals (
    exact wFnMl39_0)
noncomputable abbrev ic_impl_MsgLess := Con.mk (P := P) (f := 39) Try.call39 @c_impl_MsgLess
attribute [instance] ic_impl_MsgLess
theorem c_spec_MsgLess (a b : MsgV) {u v : AV} (hu : u = encMsg false a) (hv : v = encMsg false b) (ha : okMsg a) (hb : okMsg b) : Sound P 33 [u, v] (.bool (lessB a b)) := by
  subst hu hv
  obtain ⟨R, hR⟩ : ∃ R, lessB a b = R := ⟨_, rfl⟩
  rw [hR]
  unfold lessB at hR
  cases hA : msgB a
  rw [hA, Bool.false_and, Bool.false_and] at hR
  subst hR
  rotate_left
  cases hB : msgB b
  rw [hB, Bool.and_false, Bool.false_and] at hR
  subst hR
  rotate_left
  rw [hA, hB, Bool.and_self, Bool.true_and] at hR
  unfold lessM at hR
  by_cases hk : a.kind = b.kind
  rotate_left
  have k1 : (a.kind == b.kind) = false := by rw [beq_eq_false_iff_ne]; exact hk
  have k3 : (a.kind != b.kind) = true := by rw [bne, k1]; rfl
  rw [if_neg hk] at hR
  subst hR
  clear hk
  rotate_left
  rotate_left
  rotate_left
  have k1 : (a.kind == b.kind) = true := by rw [hk]; simp
  have k3 : (a.kind != b.kind) = false := by rw [bne, k1]; rfl
  rw [if_pos hk] at hR
  clear hk
  by_cases h1 : a.kind = 1
  have k2 : (a.kind == 1) = true := by rw [h1]; rfl
  rw [if_pos h1] at hR
  subst hR
  clear h1
  rotate_left
  have k2 : (a.kind == 1) = false := by rw [beq_eq_false_iff_ne]; exact h1
  rw [if_neg h1] at hR
  subst hR
  clear h1
  all_goals (
    exact wFnMl33_0)
noncomputable abbrev ic_spec_MsgLess := Con.mk (P := P) (f := 33) Try.call33 @c_spec_MsgLess
attribute [instance] ic_spec_MsgLess
end Go.Proofs.Ytbeijohahflkeaa
