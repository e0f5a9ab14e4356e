/- Contracts: messages that are right; lists of numbers without one. -/
import Derived.Test.YtbeijohahflkeaaFnC
import Derived.Test.YtbeijohahflkeaaKX
import Derived.Test.YtbeijohahflkeaaKM
namespace Go.Proofs.Ytbeijohahflkeaa
open Go Go.RowKit Go.Bv
set_option linter.unusedSimpArgs false
set_option linter.unusedVariables false
set_option maxRecDepth 4000
set_option maxHeartbeats 1000000

/-- A byte that may stand in a message. -/
def chB (b : UInt8) : Bool := !(decide ((b.toNat : Int) < 32)) && !(decide ((b.toNat : Int) > 126)) && !((b.toNat : Int) == 34)
theorem ch_in (n : Int) : (decide (n ≥ 32) && decide (n ≤ 126)) = (!(decide (n < 32)) && !(decide (n > 126))) := by
  by_cases h1 : n < 32 <;> by_cases h2 : n > 126 <;> simp [h1, h2] <;> omega
def plainT (s : ByteArray) : Bool := s.data.toList.all chB
def msgB (m : MsgV) : Bool :=
  if m.kind = 1 then (decide (m.num ≥ -999999999) && decide (m.num ≤ 999999999)) && isE m.text
  else if m.kind = 2 then m.num == 0 && decide ((m.text.size : Int) ≤ 40) && plainT m.text
  else false
def UptoP (q : UInt8 → Bool) (s : ByteArray) (i : Nat) : Prop := ∀ j b, j < i → s[j]? = some b → q b = true
theorem UptoP.zero {q : UInt8 → Bool} {s : ByteArray} : UptoP q s 0 := fun j b h => by omega
theorem UptoP.succ {q : UInt8 → Bool} {s : ByteArray} {i : Nat} {b : UInt8} (h : UptoP q s i) (hb : s[i]? = some b) (hl : q b = true) : UptoP q s (i + 1) := by
  intro j c hj hc
  by_cases e : j = i
  · subst e; rw [hb] at hc; cases hc; exact hl
  · exact h j c (by omega) hc
theorem data_at {s : ByteArray} {i : Nat} {b : UInt8} (h : s[i]? = some b) : b ∈ s.data.toList := by
  have : s.data[i]? = some b := by rw [← h]; rfl
  exact Array.mem_toList_iff.2 (Array.mem_of_getElem? this)
theorem UptoP.all {q : UInt8 → Bool} {s : ByteArray} {i : Nat} (h : UptoP q s i) (hi : s.size ≤ i) : s.data.toList.all q = true := by
  rw [List.all_eq_true]
  intro b hb
  obtain ⟨j, hj, rfl⟩ := List.getElem_of_mem hb
  have hj' : j < s.size := by simpa using hj
  refine h j _ (by omega) ?_
  have : s[j]? = s.data[j]? := rfl
  rw [this, Array.getElem?_eq_getElem hj']
  simp
theorem UptoP.not {q : UInt8 → Bool} {s : ByteArray} {i : Nat} {b : UInt8} (hb : s[i]? = some b) (hl : q b = false) : s.data.toList.all q = false := by
  rw [List.all_eq_false]
  exact ⟨b, data_at hb, by simp [hl]⟩

theorem c_spec_l1Plain (s : ByteArray) (hs : s.size < 4611686018427387904) : Sound P 41 [.str s] (.bool (decide ((s.size : Int) ≤ 40) && plainT s)) := by
  refine snd_b hT Try.func41 Try.results41 Try.ntmps41 ?_
  repeat' (first | refine one ?_ | (refine two ?_ ?_; all_goals (intro h; try simp only [Bool.not_eq_true', Bool.not_eq_false', reduceCtorEq] at h)) | fail)
  · (simp only [go_sem, *])
    have : decide ((s.size : Int) ≤ 40) = false := by simp only [decide_eq_true_eq, decide_eq_false_iff_not] at *; omega
    rw [this]; rfl
  · have h40 : decide ((s.size : Int) ≤ 40) = true := by simp only [decide_eq_true_eq, decide_eq_false_iff_not] at *; omega
    clear h
    refine aw_loop [1, 4, 5, 6, 7, 8, 9, 10, 11, 12, 13, 14, 15, 16, 17, 18, 19, 20, 21, 22, 23, 24, 25, 26, 27, 28] (fun n S => ∃ i : Nat, n = s.size - i ∧ i ≤ s.size ∧ UptoP chB s i ∧ S = [.str s, .undef, .bool false, .int .i64 i, .undef, .undef, .undef, .undef, .undef, .undef, .undef, .undef, .undef, .undef, .undef, .undef, .undef, .undef, .undef, .undef, .undef, .undef, .undef, .undef, .undef, .undef, .undef, .undef, .undef]) s.size ?_ ?_
    · refine ⟨0, by simp, by omega, .zero, ?_⟩
      simp only [clr, go_sem]
      first | done | rfl
    · rintro n S ⟨i, hn, hi, hl, rfl⟩
      have hw : IntKind.i64.wrap ((i : Int) + 1) = ((i + 1 : Nat) : Int) := by rw [wrap_small] <;> omega
      by_cases hlt : i < s.size
      · have hd : decide ((i : Int) < (s.size : Int)) = true := by simp [hlt]
        obtain ⟨b, hb⟩ := byte_at hlt
        cases h1 : decide ((b.toNat : Int) < 32) <;> cases h2 : decide ((b.toNat : Int) > 126) <;> cases h3 : ((b.toNat : Int) == 34)
        all_goals repeat' (first | refine one ?_ | (refine two ?_ ?_; all_goals (intro h; try simp only [Bool.not_eq_true', Bool.not_eq_false', reduceCtorEq] at h)) | fail)
        all_goals first
          | ((simp only [go_sem, *])
             have hc : chB b = false := by rw [chB, h1, h2, h3]; rfl
             have : plainT s = false := UptoP.not hb hc
             simp [this]; done)
          | (refine ⟨s.size - (i + 1), by omega, i + 1, rfl, by omega, hl.succ hb (by rw [chB, h1, h2, h3]; rfl), ?_⟩
             simp only [clr, go_sem, hw])
      · have hd : decide ((i : Int) < (s.size : Int)) = false := by simp; omega
        repeat' (first | refine one ?_ | (refine two ?_ ?_; all_goals (intro h; try simp only [Bool.not_eq_true', Bool.not_eq_false', reduceCtorEq] at h)) | fail)
        (simp only [go_sem, *])
        have : plainT s = true := hl.all (by omega)
        rw [this]; first | done | rfl
noncomputable abbrev ic_spec_l1Plain := Con.mk (P := P) (f := 41) Try.call41 @c_spec_l1Plain
attribute [instance] ic_spec_l1Plain
theorem kCases (k : Int) : k = 1 ∨ k = 2 ∨ ((k == 1) = false ∧ (k == 2) = false) := by
  simp only [beq_eq_false_iff_ne]; omega
theorem c_spec_MsgOk (m : MsgV) {u : AV} (hu : u = encMsg false m) (hm : okMsg m) : Sound P 32 [u] (.bool (msgB m)) := by
  subst hu
  have he : (m.text.toList == ByteArray.toList { data := #[] }) = isE m.text := rfl
  have hs : m.text.size < 4611686018427387904 := hm
  obtain ⟨k, n, s⟩ := m
  simp only at he hs
  refine snd_b hT Try.func32 Try.results32 Try.ntmps32 ?_
  rcases kCases k with rfl | rfl | ⟨h1, h2⟩
  (all_goals (have E0 := @encMsg.eq_1))
  repeat' (first | refine one ?_ | (refine two ?_ ?_; all_goals (intro h; try simp only [Bool.not_eq_true', Bool.not_eq_false', reduceCtorEq] at h)) | fail)
  all_goals (try clear E0)
  all_goals ((simp only [go_sem, *]); clear he; simp_all [msgB]; try (intros; omega))
noncomputable abbrev ic_spec_MsgOk := Con.mk (P := P) (f := 32) Try.call32 @c_spec_MsgOk
attribute [instance] ic_spec_MsgOk
theorem c_impl_MsgOk (m : MsgV) {u : AV} (hu : u = encMsg false m) (hm : okMsg m) : Sound P 36 [u] (.bool (msgB m)) := by
  subst hu
  have he : (m.text.toList == ByteArray.toList { data := #[] }) = isE m.text := rfl
  have hs : m.text.size < 4611686018427387904 := hm
  obtain ⟨k, n, s⟩ := m
  simp only at he hs
  refine snd_b hT Try.func36 Try.results36 Try.ntmps36 ?_
  rcases kCases k with rfl | rfl | ⟨h1, h2⟩
  · ((all_goals (have E0 := @encMsg.eq_1)); repeat' (first | refine one ?_ | (refine two ?_ ?_; all_goals (intro h; try simp only [Bool.not_eq_true', Bool.not_eq_false', reduceCtorEq] at h)) | fail)) <;> (try clear E0)
    all_goals ((simp only [go_sem, *]); clear he; simp_all [msgB]; try (intros; omega))
  · ((all_goals (have E0 := @encMsg.eq_1)); repeat' (first | refine one ?_ | (refine two ?_ ?_; all_goals (intro h; try simp only [Bool.not_eq_true', Bool.not_eq_false', reduceCtorEq] at h)) | fail)) <;> (try clear E0)
    refine aw_loop [3, 4, 5, 6, 7, 8, 9, 10, 11, 12, 13, 14, 15, 16, 17, 18, 19, 22, 23, 24, 25, 26, 27, 28, 29, 30, 31, 32, 33, 34, 35, 36, 37, 38, 39, 40, 41, 42, 43, 44, 45, 46, 47] (fun k S => ∃ i : Nat, k = s.size - i ∧ i ≤ s.size ∧ UptoP chB s i ∧ S = [.agg [.int .i64 2, .int .i64 n, .str s], .box (.agg [.int .i64 2, .int .i64 n, .str s]), .bool false, .undef, .undef, .undef, .undef, .undef, .undef, .undef, .undef, .undef, .undef, .undef, .undef, .undef, .undef, .undef, .undef, .undef, .int .i64 s.size, .int .i64 i, .undef, .undef, .undef, .undef, .undef, .undef, .undef, .undef, .undef, .undef, .undef, .undef, .undef, .undef, .undef, .undef, .undef, .undef, .undef, .undef, .undef, .undef, .undef, .undef, .undef, .undef]) s.size ?_ ?_
    · refine ⟨0, by simp, by omega, .zero, ?_⟩
      simp only [clr, go_sem]
      first | done | rfl
    · rintro k S ⟨i, hn, hi, hl, rfl⟩
      have hw : IntKind.i64.wrap ((i : Int) + 1) = ((i + 1 : Nat) : Int) := by rw [wrap_small] <;> omega
      by_cases hlt : i < s.size
      · have hd : decide ((i : Int) < (s.size : Int)) = true := by simp [hlt]
        obtain ⟨b, hb⟩ := byte_at hlt
        have hwb : IntKind.i64.wrap (b.toNat : Int) = (b.toNat : Int) := by
          have := b.toNat_lt; rw [wrap_small] <;> omega
        have hci := ch_in (b.toNat : Int)
        cases h1 : decide ((b.toNat : Int) < 32) <;> cases h2 : decide ((b.toNat : Int) > 126) <;> cases h3 : ((b.toNat : Int) == 34)
        all_goals (rw [h1, h2] at hci; simp only [Bool.not_true, Bool.not_false, Bool.and_true, Bool.and_false, Bool.and_self] at hci)
        all_goals repeat' (first | refine one ?_ | (refine two ?_ ?_; all_goals (intro h; try simp only [Bool.not_eq_true', Bool.not_eq_false', reduceCtorEq] at h)) | fail)
        all_goals first
          | ((simp only [go_sem, *])
             have hc : chB b = false := by rw [chB, h1, h2, h3]; rfl
             have : plainT s = false := UptoP.not hb hc
             simp [msgB, this]; done)
          | (refine ⟨s.size - (i + 1), by omega, i + 1, rfl, by omega, hl.succ hb (by rw [chB, h1, h2, h3]; rfl), ?_⟩
             simp only [clr, go_sem, hw])
      · have hd : decide ((i : Int) < (s.size : Int)) = false := by simp; omega
        have hpt : plainT s = true := hl.all (by omega)
        repeat' (first | refine one ?_ | (refine two ?_ ?_; all_goals (intro h; try simp only [Bool.not_eq_true', Bool.not_eq_false', reduceCtorEq] at h)) | fail)
        all_goals ((simp only [go_sem, *]); clear he; simp_all [msgB])
  · ((all_goals (have E0 := @encMsg.eq_1)); repeat' (first | refine one ?_ | (refine two ?_ ?_; all_goals (intro h; try simp only [Bool.not_eq_true', Bool.not_eq_false', reduceCtorEq] at h)) | fail)) <;> (try clear E0)
    all_goals ((simp only [go_sem, *]); clear he; simp_all [msgB]; try (intros; omega))
noncomputable abbrev ic_impl_MsgOk := Con.mk (P := P) (f := 36) Try.call36 @c_impl_MsgOk
attribute [instance] ic_impl_MsgOk
theorem c_impl_isCount (n : Int) : Sound P 37 [.int .i64 n] (.bool (decide (n ≥ 0) && decide (n ≤ 1000000000))) := by
  refine snd_b hT Try.func37 Try.results37 Try.ntmps37 ?_
  repeat' (first | refine one ?_ | (refine two ?_ ?_; all_goals (intro h; try simp only [Bool.not_eq_true', Bool.not_eq_false', reduceCtorEq] at h)) | fail)
  all_goals (simp only [go_sem, *])
noncomputable abbrev ic_impl_isCount := Con.mk (P := P) (f := 37) Try.call37 @c_impl_isCount
attribute [instance] ic_impl_isCount
end Go.Proofs.Ytbeijohahflkeaa
