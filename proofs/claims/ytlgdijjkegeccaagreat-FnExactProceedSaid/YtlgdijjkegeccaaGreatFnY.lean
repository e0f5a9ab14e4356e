/- Contracts: messages that are right; lists of numbers without one. -/
import Derived.Test.YtlgdijjkegeccaaGreatFnC
import Derived.Test.YtlgdijjkegeccaaGreatKX
import Derived.Test.YtlgdijjkegeccaaGreatKM
namespace Go.Proofs.YtlgdijjkegeccaaGreat
open Go Go.RowKit Go.Bv
set_option linter.unusedSimpArgs false
set_option linter.unusedVariables false
set_option maxRecDepth 4000
set_option maxHeartbeats 1000000

/-- A byte that may stand in a message. -/
def chB (b : UInt8) : Bool := !(decide ((b.toNat : Int) < 32)) && !(decide ((b.toNat : Int) > 126)) && !((b.toNat : Int) == 34)
theorem ch_in (n : Int) : (decide (n ≥ 32) && decide (n ≤ 126)) = (!(decide (n < 32)) && !(decide (n > 126))) := by
  by_cases h1 : n < 32 <;> by_cases h2 : n > 126 <;> simp [h1, h2] <;> omega
def plainT (s : ByteArray) : Bool := s.data.toList.all chB
def msgB (m : MsgV) : Bool :=
  if m.kind = 1 then (decide (m.num ≥ -999999999) && decide (m.num ≤ 999999999)) && isE m.text
  else if m.kind = 2 then m.num == 0 && decide ((m.text.size : Int) ≤ 40) && plainT m.text
  else false
def UptoP (q : UInt8 → Bool) (s : ByteArray) (i : Nat) : Prop := ∀ j b, j < i → s[j]? = some b → q b = true
theorem UptoP.zero {q : UInt8 → Bool} {s : ByteArray} : UptoP q s 0 := fun j b h => by omega
theorem UptoP.succ {q : UInt8 → Bool} {s : ByteArray} {i : Nat} {b : UInt8} (h : UptoP q s i) (hb : s[i]? = some b) (hl : q b = true) : UptoP q s (i + 1) := by
  intro j c hj hc
  by_cases e : j = i
  · subst e; rw [hb] at hc; cases hc; exact hl
  · exact h j c (by omega) hc
theorem data_at {s : ByteArray} {i : Nat} {b : UInt8} (h : s[i]? = some b) : b ∈ s.data.toList := by
  have : s.data[i]? = some b := by rw [← h]; rfl
  exact Array.mem_toList_iff.2 (Array.mem_of_getElem? this)
theorem UptoP.all {q : UInt8 → Bool} {s : ByteArray} {i : Nat} (h : UptoP q s i) (hi : s.size ≤ i) : s.data.toList.all q = true := by
  rw [List.all_eq_true]
  intro b hb
  obtain ⟨j, hj, rfl⟩ := List.getElem_of_mem hb
  have hj' : j < s.size := by simpa using hj
  refine h j _ (by omega) ?_
  have : s[j]? = s.data[j]? := rfl
  rw [this, Array.getElem?_eq_getElem hj']
  simp
theorem UptoP.not {q : UInt8 → Bool} {s : ByteArray} {i : Nat} {b : UInt8} (hb : s[i]? = some b) (hl : q b = false) : s.data.toList.all q = false := by
  rw [List.all_eq_false]
  exact ⟨b, data_at hb, by simp [hl]⟩

theorem c_spec_l1Plain (s : ByteArray) (hs : s.size < 4611686018427387904) : Sound P 72 [.str s] (.bool (decide ((s.size : Int) ≤ 40) && plainT s)) := by
  refine snd_b hT Tryz.func72 Tryz.results72 Tryz.ntmps72 ?_
  repeat' (first | refine one ?_ | (refine two ?_ ?_; all_goals (intro h; try simp only [Bool.not_eq_true', Bool.not_eq_false', reduceCtorEq] at h)) | fail)
  · (simp only [go_sem, *])
    have : decide ((s.size : Int) ≤ 40) = false := by simp only [decide_eq_true_eq, decide_eq_false_iff_not] at *; omega
    rw [this]; rfl
  · have h40 : decide ((s.size : Int) ≤ 40) = true := by simp only [decide_eq_true_eq, decide_eq_false_iff_not] at *; omega
    clear h
    refine aw_loop [1, 4, 5, 6, 7, 8, 9, 10, 11, 12, 13, 14, 15, 16, 17, 18, 19, 20, 21, 22, 23, 24, 25, 26, 27, 28] (fun n S => ∃ i : Nat, n = s.size - i ∧ i ≤ s.size ∧ UptoP chB s i ∧ S = [.str s, .undef, .bool false, .int .i64 i, .undef, .undef, .undef, .undef, .undef, .undef, .undef, .undef, .undef, .undef, .undef, .undef, .undef, .undef, .undef, .undef, .undef, .undef, .undef, .undef, .undef, .undef, .undef, .undef, .undef]) s.size ?_ ?_
    · refine ⟨0, by simp, by omega, .zero, ?_⟩
      simp only [clr, go_sem]
      first | done | rfl
    · rintro n S ⟨i, hn, hi, hl, rfl⟩
      have hw : IntKind.i64.wrap ((i : Int) + 1) = ((i + 1 : Nat) : Int) := by rw [wrap_small] <;> omega
      by_cases hlt : i < s.size
      · have hd : decide ((i : Int) < (s.size : Int)) = true := by simp [hlt]
        obtain ⟨b, hb⟩ := byte_at hlt
        cases h1 : decide ((b.toNat : Int) < 32) <;> cases h2 : decide ((b.toNat : Int) > 126) <;> cases h3 : ((b.toNat : Int) == 34)
        all_goals repeat' (first | refine one ?_ | (refine two ?_ ?_; all_goals (intro h; try simp only [Bool.not_eq_true', Bool.not_eq_false', reduceCtorEq] at h)) | fail)
        all_goals first
          | ((simp only [go_sem, *])
             have hc : chB b = false := by rw [chB, h1, h2, h3]; rfl
             have : plainT s = false := UptoP.not hb hc
             simp [this]; done)
          | (refine ⟨s.size - (i + 1), by omega, i + 1, rfl, by omega, hl.succ hb (by rw [chB, h1, h2, h3]; rfl), ?_⟩
             simp only [clr, go_sem, hw])
      · have hd : decide ((i : Int) < (s.size : Int)) = false := by simp; omega
        repeat' (first | refine one ?_ | (refine two ?_ ?_; all_goals (intro h; try simp only [Bool.not_eq_true', Bool.not_eq_false', reduceCtorEq] at h)) | fail)
        (simp only [go_sem, *])
        have : plainT s = true := hl.all (by omega)
        rw [this]; first | done | rfl
noncomputable abbrev ic_spec_l1Plain := Con.mk (P := P) (f := 72) Tryz.call72 @c_spec_l1Plain
attribute [instance] ic_spec_l1Plain
theorem kCases (k : Int) : k = 1 ∨ k = 2 ∨ ((k == 1) = false ∧ (k == 2) = false) := by
  simp only [beq_eq_false_iff_ne]; omega
theorem c_spec_MsgOk (m : MsgV) {u : AV} (hu : u = encMsg false m) (hm : okMsg m) : Sound P 45 [u] (.bool (msgB m)) := by
  subst hu
  have he : (m.text.toList == ByteArray.toList { data := #[] }) = isE m.text := rfl
  have hs : m.text.size < 4611686018427387904 := hm
  obtain ⟨k, n, s⟩ := m
  simp only at he hs
  refine snd_b hT Tryz.func45 Tryz.results45 Tryz.ntmps45 ?_
  rcases kCases k with rfl | rfl | ⟨h1, h2⟩
  (all_goals (have E0 := @encMsg.eq_1))
  repeat' (first | refine one ?_ | (refine two ?_ ?_; all_goals (intro h; try simp only [Bool.not_eq_true', Bool.not_eq_false', reduceCtorEq] at h)) | fail)
  all_goals (try clear E0)
  all_goals ((simp only [go_sem, *]); clear he; simp_all [msgB]; try (intros; omega))
noncomputable abbrev ic_spec_MsgOk := Con.mk (P := P) (f := 45) Tryz.call45 @c_spec_MsgOk
attribute [instance] ic_spec_MsgOk
theorem c_impl_MsgOk (m : MsgV) {u : AV} (hu : u = encMsg false m) (hm : okMsg m) : Sound P 59 [u] (.bool (msgB m)) := by
  subst hu
  have he : (m.text.toList == ByteArray.toList { data := #[] }) = isE m.text := rfl
  have hs : m.text.size < 4611686018427387904 := hm
  obtain ⟨k, n, s⟩ := m
  simp only at he hs
  refine snd_b hT Tryz.func59 Tryz.results59 Tryz.ntmps59 ?_
  rcases kCases k with rfl | rfl | ⟨h1, h2⟩
  · ((all_goals (have E0 := @encMsg.eq_1)); repeat' (first | refine one ?_ | (refine two ?_ ?_; all_goals (intro h; try simp only [Bool.not_eq_true', Bool.not_eq_false', reduceCtorEq] at h)) | fail)) <;> (try clear E0)
    all_goals ((simp only [go_sem, *]); clear he; simp_all [msgB]; try (intros; omega))
  · ((all_goals (have E0 := @encMsg.eq_1)); repeat' (first | refine one ?_ | (refine two ?_ ?_; all_goals (intro h; try simp only [Bool.not_eq_true', Bool.not_eq_false', reduceCtorEq] at h)) | fail)) <;> (try clear E0)
    refine aw_loop [3, 4, 5, 6, 7, 8, 9, 10, 11, 12, 13, 14, 15, 16, 17, 18, 19, 22, 23, 24, 25, 26, 27, 28, 29, 30, 31, 32, 33, 34, 35, 36, 37, 38, 39, 40, 41, 42, 43, 44, 45, 46, 47] (fun k S => ∃ i : Nat, k = s.size - i ∧ i ≤ s.size ∧ UptoP chB s i ∧ S = [.agg [.int .i64 2, .int .i64 n, .str s], .box (.agg [.int .i64 2, .int .i64 n, .str s]), .bool false, .undef, .undef, .undef, .undef, .undef, .undef, .undef, .undef, .undef, .undef, .undef, .undef, .undef, .undef, .undef, .undef, .undef, .int .i64 s.size, .int .i64 i, .undef, .undef, .undef, .undef, .undef, .undef, .undef, .undef, .undef, .undef, .undef, .undef, .undef, .undef, .undef, .undef, .undef, .undef, .undef, .undef, .undef, .undef, .undef, .undef, .undef, .undef]) s.size ?_ ?_
    · refine ⟨0, by simp, by omega, .zero, ?_⟩
      simp only [clr, go_sem]
      first | done | rfl
    · rintro k S ⟨i, hn, hi, hl, rfl⟩
      have hw : IntKind.i64.wrap ((i : Int) + 1) = ((i + 1 : Nat) : Int) := by rw [wrap_small] <;> omega
      by_cases hlt : i < s.size
      · have hd : decide ((i : Int) < (s.size : Int)) = true := by simp [hlt]
        obtain ⟨b, hb⟩ := byte_at hlt
        have hwb : IntKind.i64.wrap (b.toNat : Int) = (b.toNat : Int) := by
          have := b.toNat_lt; rw [wrap_small] <;> omega
        have hci := ch_in (b.toNat : Int)
        cases h1 : decide ((b.toNat : Int) < 32) <;> cases h2 : decide ((b.toNat : Int) > 126) <;> cases h3 : ((b.toNat : Int) == 34)
        all_goals (rw [h1, h2] at hci; simp only [Bool.not_true, Bool.not_false, Bool.and_true, Bool.and_false, Bool.and_self] at hci)
        all_goals repeat' (first | refine one ?_ | (refine two ?_ ?_; all_goals (intro h; try simp only [Bool.not_eq_true', Bool.not_eq_false', reduceCtorEq] at h)) | fail)
        all_goals first
          | ((simp only [go_sem, *])
             have hc : chB b = false := by rw [chB, h1, h2, h3]; rfl
             have : plainT s = false := UptoP.not hb hc
             simp [msgB, this]; done)
          | (refine ⟨s.size - (i + 1), by omega, i + 1, rfl, by omega, hl.succ hb (by rw [chB, h1, h2, h3]; rfl), ?_⟩
             simp only [clr, go_sem, hw])
      · have hd : decide ((i : Int) < (s.size : Int)) = false := by simp; omega
        have hpt : plainT s = true := hl.all (by omega)
        repeat' (first | refine one ?_ | (refine two ?_ ?_; all_goals (intro h; try simp only [Bool.not_eq_true', Bool.not_eq_false', reduceCtorEq] at h)) | fail)
        all_goals ((simp only [go_sem, *]); clear he; simp_all [msgB])
  · ((all_goals (have E0 := @encMsg.eq_1)); repeat' (first | refine one ?_ | (refine two ?_ ?_; all_goals (intro h; try simp only [Bool.not_eq_true', Bool.not_eq_false', reduceCtorEq] at h)) | fail)) <;> (try clear E0)
    all_goals ((simp only [go_sem, *]); clear he; simp_all [msgB]; try (intros; omega))
noncomputable abbrev ic_impl_MsgOk := Con.mk (P := P) (f := 59) Tryz.call59 @c_impl_MsgOk
attribute [instance] ic_impl_MsgOk
theorem c_impl_isCount (n : Int) : Sound P 55 [.int .i64 n] (.bool (decide (n ≥ 0) && decide (n ≤ 1000000000))) := by
  refine snd_b hT Tryz.func55 Tryz.results55 Tryz.ntmps55 ?_
  repeat' (first | refine one ?_ | (refine two ?_ ?_; all_goals (intro h; try simp only [Bool.not_eq_true', Bool.not_eq_false', reduceCtorEq] at h)) | fail)
  all_goals (simp only [go_sem, *])
noncomputable abbrev ic_impl_isCount := Con.mk (P := P) (f := 55) Tryz.call55 @c_impl_isCount
attribute [instance] ic_impl_isCount
theorem c_without_clo (x n : Int) : Sound P 64 [.int .i64 x, .ip (.int .i64 n)] (.bool (x == n)) := by
  refine snd_b hT Tryz.func64 Tryz.results64 Tryz.ntmps64 ?_
  repeat' (first | refine one ?_ | (refine two ?_ ?_; all_goals (intro h; try simp only [Bool.not_eq_true', Bool.not_eq_false', reduceCtorEq] at h)) | fail)
  all_goals (simp only [go_sem, *])
theorem c_impl_without (f : List Int) (n : Int) (hf : f.length ≤ 4194304) : Sound P 27 [.lst false 1 (f.map encInt), .int .i64 n] (.lst true 1 ((f.filter fun x => !(x == n)).map encInt)) := by
  have hp : ∀ x ∈ f, Sound P 64 (encInt x :: [.ip (.int .i64 n)]) (.bool ((fun y => y == n) x)) := fun x _ => c_without_clo x n
  have hg := Tryz.call64
  have hus : ipsA [.ip (.int .i64 n)] = true := rfl
  have hl : f.length < 4611686018427387904 := by omega
  have hc := c_slices_DeleteFunc_int_int f _ hp hg hus hl
  clear hp hg hus
  refine snd_b hT Tryz.func27 Tryz.results27 Tryz.ntmps27 ?_
  repeat' (first | refine oneF ?_ | (refine two ?_ ?_; all_goals (intro h; try simp only [Bool.not_eq_true', Bool.not_eq_false', reduceCtorEq] at h)) | fail)
  all_goals (simp only [go_sem, *])
noncomputable abbrev ic_impl_without := Con.mk (P := P) (f := 27) Tryz.call27 @c_impl_without
attribute [instance] ic_impl_without
/-- Without the first that is it. -/
def less1 : List Int → Int → List Int
  | [], _ => []
  | x :: f, n => if x == n then f else x :: less1 f n
theorem less1_none {f : List Int} {n : Int} (h : f.any (· == n) = false) : less1 f n = f := by
  induction f with
  | nil => rfl
  | cons x f ih =>
    simp only [List.any_cons, Bool.or_eq_false_iff] at h
    rw [less1, h.1, ih h.2]; rfl
theorem less1_appT {f g : List Int} {n : Int} (h : f.any (· == n) = true) : less1 (f ++ g) n = less1 f n ++ g := by
  induction f with
  | nil => simp at h
  | cons x f ih =>
    by_cases hx : x = n
    · simp [less1, hx]
    · have hb : (x == n) = false := by simp [hx]
      rw [List.any_cons, hb, Bool.false_or] at h
      simp [less1, hb, ih h]
theorem less1_appF {f g : List Int} {n : Int} (h : f.any (· == n) = false) : less1 (f ++ g) n = f ++ less1 g n := by
  induction f with
  | nil => rfl
  | cons x f ih =>
    rw [List.any_cons, Bool.or_eq_false_iff] at h
    simp [less1, h.1, ih h.2]
theorem less1_succ {f : List Int} {i : Nat} {x n : Int} (h : f[i]? = some x) : less1 (f.take (i + 1)) n = if (f.take i).any (· == n) then less1 (f.take i) n ++ [x] else if x == n then f.take i else f.take i ++ [x] := by
  rw [List.take_add_one, h, Option.toList_some]
  cases ha : (f.take i).any (· == n)
  · rw [less1_appF ha]
    by_cases hx : x = n
    · simp [less1, hx]
    · simp [less1, hx]
  · rw [less1_appT ha]; rfl
theorem less1_len (f : List Int) (n : Int) : (less1 f n).length ≤ f.length := by
  induction f with
  | nil => simp [less1]
  | cons x f ih => rw [less1]; split <;> simp; omega
theorem less1_nodup {f : List Int} {n : Int} (h : f.Nodup) : less1 f n = f.filter fun x => !(x == n) := by
  induction f with
  | nil => rfl
  | cons x f ih =>
    rw [List.nodup_cons] at h
    rw [less1, List.filter_cons]
    cases hx : x == n
    · simp only [Bool.false_eq_true, if_false, Bool.not_false, if_true]
      rw [ih h.2]
    · simp only [if_true, Bool.not_true, Bool.false_eq_true, if_false]
      have hx' : x = n := by simpa using hx
      subst hx'
      exact (List.filter_eq_self.2 fun y hy => by
        have : y ≠ x := fun e => h.1 (e ▸ hy)
        simpa using this).symm
theorem any_succ {α : Type} {p : α → Bool} {f : List α} {i : Nat} {x : α} (h : f[i]? = some x) : (f.take (i + 1)).any p = ((f.take i).any p || p x) := by
  rw [List.take_add_one, h]; simp
theorem c_spec_l2Less (f : List Int) (n : Int) (hf : f.length ≤ 4194304) : Sound P 18 [.lst false 1 (f.map encInt), .int .i64 n] (.lst true 1 ((less1 f n).map encInt)) := by
  refine snd_b hT Tryz.func18 Tryz.results18 Tryz.ntmps18 ?_
  repeat' (first | refine oneF ?_ | (refine two ?_ ?_; all_goals (intro h; try simp only [Bool.not_eq_true', Bool.not_eq_false', reduceCtorEq] at h)) | fail)
  refine aw_loop [2, 3, 8, 9, 10, 11, 12, 13, 14, 15, 16, 17, 18, 19, 20, 21, 22, 23, 24, 25, 26, 27, 28, 29, 30, 31, 32] (fun k S => ∃ (i : Nat), k = f.length - i ∧ i ≤ f.length ∧ S = [.lst false 1 (f.map encInt), .int .i64 n, .undef, .undef, .lst true 1 [], .lst true 1 ((less1 (f.take i) n).map encInt), .bool ((f.take i).any (· == n)), .int .i64 i, .undef, .undef, .undef, .undef, .undef, .undef, .undef, .undef, .undef, .undef, .undef, .undef, .undef, .undef, .undef, .undef, .undef, .undef, .undef, .undef, .undef, .undef, .undef, .undef, .undef]) f.length ?_ ?_
  · refine ⟨0, by simp, by omega, ?_⟩
    simp only [clr, go_sem]
    first | done | rfl
  · rintro k S ⟨i, hn, hi, rfl⟩
    have hwi : IntKind.i64.wrap ((i : Int) + 1) = ((i + 1 : Nat) : Int) := by rw [wrap_small] <;> omega
    by_cases hlt : i < f.length
    · have hd : decide ((i : Int) < (f.length : Int)) = true := by simp [hlt]
      obtain ⟨y, hy⟩ : ∃ y, f[i]? = some y := ⟨f[i], by simp [hlt]⟩
      have hs := less1_succ (n := n) hy
      have ha := any_succ (p := (· == n)) hy
      have hll := less1_len (f.take i) n
      have hl2 : (less1 (f.take i) n).length ≤ f.length := by simp at hll; omega
      cases hany : (f.take i).any (· == n) with
      | true =>
        rw [hany] at ha hs
        simp only [if_true, Bool.true_or] at hs ha
        cases hyn : y == n
        all_goals ((all_goals (have E0 := @encInt.eq_1)); repeat' (first | refine oneF ?_ | (refine two ?_ ?_; all_goals (intro h; try simp only [Bool.not_eq_true', Bool.not_eq_false', reduceCtorEq] at h)) | fail)) <;> (try clear E0)
        all_goals (
          refine ⟨f.length - (i + 1), by omega, i + 1, rfl, by omega, ?_⟩
          rw [hs, ha]
          simp only [clr, go_sem, List.map_append, encInt]
          first | done | rfl)
      | false =>
        rw [hany] at ha hs
        simp only [Bool.false_eq_true, if_false, Bool.false_or] at hs ha
        cases hyn : y == n
        all_goals (rw [hyn] at hs ha; simp only [Bool.false_eq_true, if_false, if_true] at hs; rw [← less1_none hany] at hs)
        all_goals ((all_goals (have E0 := @encInt.eq_1)); repeat' (first | refine oneF ?_ | (refine two ?_ ?_; all_goals (intro h; try simp only [Bool.not_eq_true', Bool.not_eq_false', reduceCtorEq] at h)) | fail)) <;> (try clear E0)
        all_goals (
          refine ⟨f.length - (i + 1), by omega, i + 1, rfl, by omega, ?_⟩
          rw [hs, ha]
          simp only [clr, go_sem, List.map_append, encInt]
          first | done | rfl)
    · have hd : decide ((i : Int) < (f.length : Int)) = false := by simp; omega
      have ht : f.take i = f := List.take_of_length_le (by omega)
      rw [ht]
      clear ht
      repeat' (first | refine oneF ?_ | (refine two ?_ ?_; all_goals (intro h; try simp only [Bool.not_eq_true', Bool.not_eq_false', reduceCtorEq] at h)) | fail)
      all_goals (simp only [go_sem, *])
noncomputable abbrev ic_spec_l2Less := Con.mk (P := P) (f := 18) Tryz.call18 @c_spec_l2Less
attribute [instance] ic_spec_l2Less
end Go.Proofs.YtlgdijjkegeccaaGreat
