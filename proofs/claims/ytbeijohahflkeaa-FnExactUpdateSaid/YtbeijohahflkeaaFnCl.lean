/- Contracts: lists of clients; who waits and who is told stand apart. -/
import Derived.Test.YtbeijohahflkeaaFnY
import Derived.Test.YtbeijohahflkeaaKX
import Derived.Test.YtbeijohahflkeaaBvM5
namespace Go.Proofs.Ytbeijohahflkeaa
open Go Go.RowKit Go.Bv
set_option linter.unusedSimpArgs false
set_option linter.unusedVariables false
set_option maxRecDepth 4000
set_option maxHeartbeats 4000000
/-! The walks that end. -/
theorem wFnCl46_0 {p : Prop} (h : p := by
  have E0 := @encInt.eq_1
  exact wk) : p := h
theorem wFnCl45_0 {p : Prop} (h : p := by
  refine snd_b hT Try.func45 Try.results45 Try.ntmps45 ?_
  exact wk) : p := h
theorem sFnCl42 {p q : Prop} (k : q) (h : q → p := by
  first
  | exact shAR 6 (by exact i_S hT [[], [], [0, 1], [0, 1, 2], [0, 1, 2, 3], [0, 1, 2, 3, 4], [0, 1, 2, 3, 4, 5], [0, 1, 2, 3, 4, 5, 6], [0, 1, 2, 3, 4, 5, 6], [0, 1, 2, 3, 4, 5, 6, 7, 8], [0, 1, 2, 3, 4, 5, 6], [0, 1, 2, 3, 4, 5, 6], [0, 1, 2, 3, 4, 5, 6, 10, 11], [0, 1, 2, 3, 4, 5, 6, 10, 11, 12], [0, 1, 2, 3, 4, 5, 6, 7, 8, 9, 10, 11, 12, 13], [0, 1, 2, 3, 4, 5, 6, 7, 8, 9, 10, 11, 12, 13, 14]] [13, 14, 15, 16, 17, 18, 19, 20, 21, 22, 23, 24, 25, 26, 27, 28])
  | exact i1
  | fail) : p := h k
theorem wFnCl42_0 {p : Prop} (h : p := by
  refine snd_b hT Try.func42 Try.results42 Try.ntmps42 ?_
  repeat' (first | refine sFnCl42 ?_ | (refine two ?_ ?_; all_goals (intro h; try simp only [Bool.not_eq_true', Bool.not_eq_false', reduceCtorEq] at h)) | fail)
  all_goals (simp only [go_sem, *]; first | done | rfl)) : p := h
theorem wFnCl42_1 {p : Prop} (h : p := by
  have E0 := @encInt.eq_1
  repeat' (first | refine sFnCl42 ?_ | (refine two ?_ ?_; all_goals (intro h; try simp only [Bool.not_eq_true', Bool.not_eq_false', reduceCtorEq] at h)) | fail)
  all_goals (simp only [go_sem, *]; first | done | rfl)) : p := h
theorem wFnCl48_0 {p : Prop} (h : p := by
  have E0 := @encInt.eq_1
  refine snd_b hT Try.func48 Try.results48 Try.ntmps48 ?_
  exact wk) : p := h
theorem wFnCl38_0 {p : Prop} (h : p := by
  refine snd_b hT Try.func38 Try.results38 Try.ntmps38 ?_
  exact wk) : p := h
theorem wFnCl35_0 {p : Prop} (h : p := by
  refine snd_b hT Try.func35 Try.results35 Try.ntmps35 ?_
  exact wk) : p := h
theorem wFnCl35_1 {p : Prop} (h : p := by
  have E0 := @encInt.eq_1
  exact wk) : p := h

def allQ (q : Nat → Bool) (n : Nat) : Bool := (List.range n).all q
theorem allQ_succ (q : Nat → Bool) (n : Nat) : allQ q (n + 1) = (allQ q n && q n) := by simp [allQ, List.range_succ]
theorem allQ_not {q : Nat → Bool} {i n : Nat} (h : i < n) (hq : q i = false) : allQ q n = false := by
  rw [allQ, List.all_eq_false]
  exact ⟨i, by simpa using h, by simp [hq]⟩
/-- The i-th is a client that does not stand ahead. -/
def cliQ (f : List Int) (i : Nat) : Bool := match f[i]? with
  | none => true
  | some n => (decide (n ≥ 0) && decide (n ≤ 63)) && !((f.take i).any (· == n))
def clientsB (f : List Int) : Bool := allQ (cliQ f) f.length && decide ((f.length : Int) ≤ 32)
theorem cliQ_at {f : List Int} {i : Nat} {n : Int} (h : f[i]? = some n) : cliQ f i = ((decide (n ≥ 0) && decide (n ≤ 63)) && !((f.take i).any (· == n))) := by unfold cliQ; rw [h]
theorem take_enc (f : List Int) (i : Nat) : List.take i (f.map encInt) = (f.take i).map encInt := (List.map_take ..).symm
theorem c_impl_isClient (n : Int) : Sound P 54 [.int .i64 n] (.bool (decide (n ≥ 0) && decide (n ≤ 63))) := by
  refine snd_b hT Try.func54 Try.results54 Try.ntmps54 ?_
  repeat' (first | refine one ?_ | (refine two ?_ ?_; all_goals (intro h; try simp only [Bool.not_eq_true', Bool.not_eq_false', reduceCtorEq] at h)) | fail)
  (simp only [go_sem, *])
noncomputable abbrev ic_impl_isClient := Con.mk (P := P) (f := 54) Try.call54 @c_impl_isClient
attribute [instance] ic_impl_isClient
theorem c_spec_l2Client (n : Int) : Sound P 53 [.int .i64 n] (.bool (decide (n ≥ 0) && decide (n ≤ 63))) := by
  refine snd_b hT Try.func53 Try.results53 Try.ntmps53 ?_
  repeat' (first | refine one ?_ | (refine two ?_ ?_; all_goals (intro h; try simp only [Bool.not_eq_true', Bool.not_eq_false', reduceCtorEq] at h)) | fail)
  (simp only [go_sem, *])
noncomputable abbrev ic_spec_l2Client := Con.mk (P := P) (f := 53) Try.call53 @c_spec_l2Client
attribute [instance] ic_spec_l2Client
theorem c_impl_clientsOk (f : List Int) (hl : f.length ≤ 4194304) : Sound P 46 [.lst false 1 (f.map encInt)] (.bool (clientsB f)) := by
  refine snd_b hT Try.func46 Try.results46 Try.ntmps46 ?_
  repeat' (first | refine one ?_ | (refine two ?_ ?_; all_goals (intro h; try simp only [Bool.not_eq_true', Bool.not_eq_false', reduceCtorEq] at h)) | fail)
  refine aw_loop [1, 3, 4, 8, 9, 10, 11, 12, 13, 14, 15, 16, 17, 18, 19, 20, 21, 22, 23, 24, 25] (fun n S => ∃ i : Nat, n = f.length - i ∧ i ≤ f.length ∧ allQ (cliQ f) i = true ∧ S = [.lst false 1 (f.map encInt), .undef, .bool false, .undef, .undef, .lst false 1 (f.map encInt), .int .i64 f.length, .int .i64 i, .undef, .undef, .undef, .undef, .undef, .undef, .undef, .undef, .undef, .undef, .undef, .undef, .undef, .undef, .undef, .undef, .undef, .undef]) f.length ?_ ?_
  · refine ⟨0, by simp, by omega, rfl, ?_⟩
    (rw [clr_eq]; rotate_left; rfl; simp only [keepB, go_sem, Nat.reduceBEq, Nat.reduceAdd, cond_true, cond_false, *]; simp only [clrG, Nat.reduceBEq, Nat.reduceAdd, cond_true, cond_false])
    first | done | rfl
  rintro n S ⟨i, hn, hi, ha, rfl⟩
  have hwi : IntKind.i64.wrap ((i : Int) + 1) = ((i + 1 : Nat) : Int) := by rw [wrap_small] <;> omega
  by_cases hlt : i < f.length
  · have hd : decide ((i : Int) < (f.length : Int)) = true := by simp [hlt]
    obtain ⟨x, hx⟩ : ∃ x, f[i]? = some x := ⟨f[i], by simp [hlt]⟩
    have hq := cliQ_at hx
    have htk := take_enc f i
    have htl : (f.take i).length < 4611686018427387904 := by simp; omega
    have hi0 : (0 : Int) ≤ (i : Int) := by omega
    have hi1 : (i : Int) ≤ (f.length : Int) := by omega
    cases hC : (decide (x ≥ 0) && decide (x ≤ 63))
    · rw [show clientsB f = false by rw [clientsB, allQ_not hlt (by rw [hq, hC]; rfl)]; rfl]
      clear hq ha
      exact wFnCl46_0
    cases hH : (f.take i).any (· == x)
    · have hqt : cliQ f i = true := by rw [hq, hC, hH]; rfl
      clear hq
      (all_goals (have E0 := @encInt.eq_1))
      repeat' (first | refine one ?_ | (refine two ?_ ?_; all_goals (intro h; try simp only [Bool.not_eq_true', Bool.not_eq_false', reduceCtorEq] at h)) | fail)
      all_goals (try clear E0)
      all_goals (
        refine ⟨f.length - (i + 1), by omega, i + 1, rfl, by omega, by rw [allQ_succ, ha, hqt]; rfl, ?_⟩
        (rw [clr_eq]; rotate_left; rfl; simp only [keepB, go_sem, Nat.reduceBEq, Nat.reduceAdd, cond_true, cond_false, *]; simp only [clrG, Nat.reduceBEq, Nat.reduceAdd, cond_true, cond_false])
        first | done | rfl)
    · rw [show clientsB f = false by rw [clientsB, allQ_not hlt (by rw [hq, hH]; simp)]; rfl]
      clear hq ha
      exact wFnCl46_0
  · have hd : decide ((i : Int) < (f.length : Int)) = false := by simp; omega
    have e : i = f.length := by omega
    rw [show clientsB f = decide ((f.length : Int) ≤ 32) by rw [clientsB, ← e, ha, e, Bool.true_and]]
    clear e ha
    exact wFnCl46_0
noncomputable abbrev ic_impl_clientsOk := Con.mk (P := P) (f := 46) Try.call46 @c_impl_clientsOk
attribute [instance] ic_impl_clientsOk
theorem c_impl_LineOk (f : List Int) (hl : f.length ≤ 4194304) : Sound P 45 [.lst false 1 (f.map encInt)] (.bool (clientsB f)) := by
  exact wFnCl45_0
noncomputable abbrev ic_impl_LineOk := Con.mk (P := P) (f := 45) Try.call45 @c_impl_LineOk
attribute [instance] ic_impl_LineOk
theorem c_spec_LineOk (f : List Int) (hl : f.length ≤ 4194304) : Sound P 42 [.lst false 1 (f.map encInt)] (.bool (clientsB f)) := by
  by_cases h32 : (f.length : Int) > 32
  · have hd : decide ((f.length : Int) > 32) = true := decide_eq_true h32
    rw [show clientsB f = false by rw [clientsB, decide_eq_false (p := (f.length : Int) ≤ 32) (by omega), Bool.and_false]]
    exact wFnCl42_0
  have hd0 : decide ((f.length : Int) > 32) = false := decide_eq_false h32
  have h33 : decide ((f.length : Int) ≤ 32) = true := decide_eq_true (by omega)
  refine snd_b hT Try.func42 Try.results42 Try.ntmps42 ?_
  repeat' (first | refine sFnCl42 ?_ | (refine two ?_ ?_; all_goals (intro h; try simp only [Bool.not_eq_true', Bool.not_eq_false', reduceCtorEq] at h)) | fail)
  refine aw_loop [1, 4, 5, 6, 7, 8, 9, 10, 11, 12, 13, 14, 15, 16, 17, 18, 19, 20, 21, 22, 23, 24, 25, 26, 27, 28] (fun n S => ∃ i : Nat, n = f.length - i ∧ i ≤ f.length ∧ allQ (cliQ f) i = true ∧ S = [.lst false 1 (f.map encInt), .undef, .bool false, .int .i64 i, .undef, .undef, .undef, .undef, .undef, .undef, .undef, .undef, .undef, .undef, .undef, .undef, .undef, .undef, .undef, .undef, .undef, .undef, .undef, .undef, .undef, .undef, .undef, .undef, .undef]) f.length ?_ ?_
  · refine ⟨0, by simp, by omega, rfl, ?_⟩
    (rw [clr_eq]; rotate_left; rfl; simp only [keepB, go_sem, Nat.reduceBEq, Nat.reduceAdd, cond_true, cond_false, *]; simp only [clrG, Nat.reduceBEq, Nat.reduceAdd, cond_true, cond_false])
    first | done | rfl
  rintro n S ⟨i, hn, hi, ha, rfl⟩
  have hwi : IntKind.i64.wrap ((i : Int) + 1) = ((i + 1 : Nat) : Int) := by rw [wrap_small] <;> omega
  by_cases hlt : i < f.length
  · have hd : decide ((i : Int) < (f.length : Int)) = true := by simp [hlt]
    obtain ⟨x, hx⟩ : ∃ x, f[i]? = some x := ⟨f[i], by simp [hlt]⟩
    have hq := cliQ_at hx
    have htk := take_enc f i
    have htl : (f.take i).length < 4611686018427387904 := by simp; omega
    have hi0 : (0 : Int) ≤ (i : Int) := by omega
    have hi1 : (i : Int) ≤ (f.length : Int) := by omega
    have hi2 : (i : Int) < (f.length : Int) := by omega
    cases hC : (decide (x ≥ 0) && decide (x ≤ 63))
    · rw [show clientsB f = false by rw [clientsB, allQ_not hlt (by rw [hq, hC]; rfl)]; rfl]
      clear hq ha
      exact wFnCl42_1
    cases hH : (f.take i).any (· == x)
    · have hqt : cliQ f i = true := by rw [hq, hC, hH]; rfl
      clear hq
      (all_goals (have E0 := @encInt.eq_1))
      repeat' (first | refine sFnCl42 ?_ | (refine two ?_ ?_; all_goals (intro h; try simp only [Bool.not_eq_true', Bool.not_eq_false', reduceCtorEq] at h)) | fail)
      all_goals (try clear E0)
      all_goals (
        refine ⟨f.length - (i + 1), by omega, i + 1, rfl, by omega, by rw [allQ_succ, ha, hqt]; rfl, ?_⟩
        (rw [clr_eq]; rotate_left; rfl; simp only [keepB, go_sem, Nat.reduceBEq, Nat.reduceAdd, cond_true, cond_false, *]; simp only [clrG, Nat.reduceBEq, Nat.reduceAdd, cond_true, cond_false])
        first | done | rfl)
    · rw [show clientsB f = false by rw [clientsB, allQ_not hlt (by rw [hq, hH]; simp)]; rfl]
      clear hq ha
      exact wFnCl42_1
  · have hd : decide ((i : Int) < (f.length : Int)) = false := by simp; omega
    have e : i = f.length := by omega
    rw [show clientsB f = true by rw [clientsB, ← e, ha, e, h33]; rfl]
    clear e ha
    exact wFnCl42_1
noncomputable abbrev ic_spec_LineOk := Con.mk (P := P) (f := 42) Try.call42 @c_spec_LineOk
attribute [instance] ic_spec_LineOk
def apartB (f g : List Int) : Bool := clientsB f && clientsB g && !(g.any fun n => f.any (· == n))
theorem c_apart_clo (f : List Int) (n : Int) (hl : f.length < 4611686018427387904) : Sound P 48 [encInt n, .ip (.lst false 1 (f.map encInt))] (.bool (f.any (· == n))) := by
  exact wFnCl48_0
theorem c_impl_apart (f g : List Int) (hf : f.length ≤ 4194304) (hg : g.length ≤ 4194304) : Sound P 38 [.lst false 1 (f.map encInt), .lst false 1 (g.map encInt)] (.bool (apartB f g)) := by
  have hp : ∀ x ∈ g, Sound P 48 (encInt x :: [.ip (.lst false 1 (f.map encInt))]) (.bool ((fun n => f.any (· == n)) x)) := fun x _ => c_apart_clo f x (by omega)
  have hc := c_slices_ContainsFunc_int_int g _ hp Try.call48 (by simp only [ipsA, plA, plAs_Int, Bool.and_self]) (by omega)
  clear hp
  cases hA : clientsB f
  · rw [show apartB f g = false by simp only [apartB, hA, Bool.false_and]]
    exact wFnCl38_0
  cases hB : clientsB g
  · rw [show apartB f g = false by simp only [apartB, hB, Bool.false_and, Bool.and_false]]
    exact wFnCl38_0
  rw [show apartB f g = !(g.any fun n => f.any (· == n)) by simp only [apartB, hA, hB, Bool.and_self, Bool.true_and]]
  exact wFnCl38_0
noncomputable abbrev ic_impl_apart := Con.mk (P := P) (f := 38) Try.call38 @c_impl_apart
attribute [instance] ic_impl_apart
theorem c_spec_l6Waits (f g : List Int) (hf : f.length ≤ 4194304) (hg : g.length ≤ 4194304) : Sound P 35 [.lst false 1 (f.map encInt), .lst false 1 (g.map encInt)] (.bool (apartB f g)) := by
  have hfl : f.length < 4611686018427387904 := by omega
  cases hA : clientsB f
  · rw [show apartB f g = false by simp only [apartB, hA, Bool.false_and]]
    exact wFnCl35_0
  cases hB : clientsB g
  · rw [show apartB f g = false by simp only [apartB, hB, Bool.false_and, Bool.and_false]]
    exact wFnCl35_0
  rw [show apartB f g = !(g.any fun n => f.any (· == n)) by simp only [apartB, hA, hB, Bool.and_self, Bool.true_and]]
  refine snd_b hT Try.func35 Try.results35 Try.ntmps35 ?_
  repeat' (first | refine one ?_ | (refine two ?_ ?_; all_goals (intro h; try simp only [Bool.not_eq_true', Bool.not_eq_false', reduceCtorEq] at h)) | fail)
  refine aw_loop [2, 3, 6, 7, 8, 9, 10, 11, 12, 13, 14, 15, 16, 17, 18, 19, 20, 21, 22, 23, 24, 25] (fun n S => ∃ i : Nat, n = g.length - i ∧ i ≤ g.length ∧ ((g.take i).any fun n => f.any (· == n)) = false ∧ S = [.lst false 1 (f.map encInt), .lst false 1 (g.map encInt), .undef, .undef, .bool false, .int .i64 i, .undef, .undef, .undef, .undef, .undef, .undef, .undef, .undef, .undef, .undef, .undef, .undef, .undef, .undef, .undef, .undef, .undef, .undef, .undef, .undef]) g.length ?_ ?_
  · refine ⟨0, by simp, by omega, rfl, ?_⟩
    (rw [clr_eq]; rotate_left; rfl; simp only [keepB, go_sem, Nat.reduceBEq, Nat.reduceAdd, cond_true, cond_false, *]; simp only [clrG, Nat.reduceBEq, Nat.reduceAdd, cond_true, cond_false])
    first | done | rfl
  rintro n S ⟨i, hn, hi, ha, rfl⟩
  have hwi : IntKind.i64.wrap ((i : Int) + 1) = ((i + 1 : Nat) : Int) := by rw [wrap_small] <;> omega
  by_cases hlt : i < g.length
  · have hd : decide ((i : Int) < (g.length : Int)) = true := by simp [hlt]
    obtain ⟨x, hx⟩ : ∃ x, g[i]? = some x := ⟨g[i], by simp [hlt]⟩
    have hs : ((g.take (i + 1)).any fun n => f.any (· == n)) = f.any (· == x) := by
      rw [List.take_add_one, hx, List.any_append, ha]; simp
    have hi0 : (0 : Int) ≤ (i : Int) := by omega
    have hi1 : (i : Int) < (g.length : Int) := by omega
    cases hH : f.any (· == x)
    · rw [hH] at hs
      have hK := Kept.mk hs
      clear hs ha
      (all_goals (have E0 := @encInt.eq_1))
      repeat' (first | refine one ?_ | (refine two ?_ ?_; all_goals (intro h; try simp only [Bool.not_eq_true', Bool.not_eq_false', reduceCtorEq] at h)) | fail)
      all_goals (try clear E0)
      all_goals (
        refine ⟨g.length - (i + 1), by omega, i + 1, rfl, by omega, hK.out, ?_⟩
        clear hK
        (rw [clr_eq]; rotate_left; rfl; simp only [keepB, go_sem, Nat.reduceBEq, Nat.reduceAdd, cond_true, cond_false, *]; simp only [clrG, Nat.reduceBEq, Nat.reduceAdd, cond_true, cond_false])
        first | done | rfl)
    · have hm : (g.any fun n => f.any (· == n)) = true := List.any_eq_true.2 ⟨x, List.mem_of_getElem? hx, hH⟩
      rw [hm]
      clear hs ha hm
      exact wFnCl35_1
  · have hd : decide ((i : Int) < (g.length : Int)) = false := by simp; omega
    rw [List.take_of_length_le (by omega)] at ha
    rw [ha]
    clear ha
    exact wFnCl35_1
noncomputable abbrev ic_spec_l6Waits := Con.mk (P := P) (f := 35) Try.call35 @c_spec_l6Waits
attribute [instance] ic_spec_l6Waits
end Go.Proofs.Ytbeijohahflkeaa
