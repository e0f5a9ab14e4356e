/- Contracts: a ring that is right, as the specification has it. -/
import Derived.Test.YtlgdijjkegeccaaGreatKR
import Derived.Test.YtlgdijjkegeccaaGreatBvM5
import Derived.Test.YtlgdijjkegeccaaGreatFnSp3
import Derived.Test.YtlgdijjkegeccaaGreatFnSp4
import Derived.Test.YtlgdijjkegeccaaGreatFnSp5
namespace Go.Proofs.YtlgdijjkegeccaaGreat
open Go Go.RowKit Go.Bv
set_option linter.unusedSimpArgs false
set_option linter.unusedVariables false
set_option maxRecDepth 4000
set_option maxHeartbeats 1000000
/-! The walks that end. -/
theorem sFnSs16F {p q : Prop} (k : q) (h : q → p := by
  first
  | exact shAR 6 (by exact i_S hT [[], [], [1], [], [1, 2, 3], [1, 2, 3, 4], [0, 1, 2, 3, 4, 5], [0, 1, 2, 3, 4, 5, 6], [0, 1, 2, 3, 4, 5, 6, 7], [0, 1, 2, 3, 4, 5, 6, 7, 8], [0, 1, 2, 3, 4, 5, 6, 7, 8, 9], [0, 1, 2, 3, 4, 5, 6, 7, 8, 9, 10], [0, 1, 2, 3, 4, 5, 6, 7, 8, 9, 10, 11], [0, 1, 2, 3, 4, 5, 6, 7, 8, 9, 10, 11, 12], [0, 1, 2, 3, 4, 5, 6, 7, 8, 9, 10, 11], [0, 1, 2, 3, 4, 5, 6, 7, 8, 9, 10, 11, 14], [0, 1, 2, 3, 4, 5, 6, 7, 8, 9, 10, 11, 12, 13, 14, 15], [0, 1, 2, 3, 4, 5, 6, 7, 8, 9, 10, 11, 12, 13, 14, 15, 16], [0, 1, 2, 3, 4, 5, 6, 7, 8, 9, 10, 11, 12, 13, 14, 15, 16, 17], [0, 1, 2, 3, 4, 5, 6, 7, 8, 9, 10, 11], [0, 1, 2, 3, 4, 5, 6, 7, 8, 9, 10, 11, 19], [0, 1, 2, 3, 4, 5, 6, 7, 8, 9, 10, 11], [0, 1, 2, 3, 4, 5, 6, 7, 8, 9, 10, 11, 19, 20, 21], [0, 1, 2, 3, 4, 5, 6, 7, 8, 9, 10, 11, 19, 20, 21, 22], [0, 1, 2, 3, 4, 5, 6, 7, 8, 9, 10, 11, 19, 20, 21, 22, 23], [0, 1, 2, 3, 4, 5, 6, 7, 8, 9, 10, 11, 12, 13, 14, 15, 16, 17, 18, 19, 20, 21, 22, 23, 24], [0, 1, 2, 3, 4, 5, 6, 7, 8, 9, 10, 11, 12, 13, 14, 15, 16, 17, 18, 19, 20, 21, 22, 23, 24, 25], [0, 1, 2, 3, 4, 5, 6, 7, 8, 9, 10, 11, 12, 13, 14, 15, 16, 17, 18, 19, 20, 21, 22, 23, 24, 25, 26]] [43, 44, 45, 46, 47, 48, 49, 50, 51, 52, 53, 54, 55, 56, 57, 58, 59, 60, 61, 62, 63, 64, 65, 66, 67, 68, 69, 70])
  | exact shAR 8 (by exact i_S hT [[], [0], [0, 1], [], [3], [], [5], [3, 4, 5, 6], [0, 1, 2, 3, 4, 5, 6, 7], [0, 1, 2, 3, 4, 5, 6, 7, 8], [0, 1, 2, 3, 4, 5, 6, 7, 8, 9], [0, 1, 2, 3, 4, 5, 6, 7, 8, 9, 10], [0, 1, 2, 3, 4, 5, 6, 7, 8, 9, 10, 11], [0, 1, 2, 3, 4, 5, 6, 7, 8, 9], [0, 1, 2, 3, 4, 5, 6, 7, 8, 9, 13], [0, 1, 2, 3, 4, 5, 6, 7, 8, 9, 13, 14], [0, 1, 2, 3, 4, 5, 6, 7, 8, 9, 10, 11, 12, 13, 14, 15], [0, 1, 2, 3, 4, 5, 6, 7, 8, 9, 10, 11, 12, 13, 14, 15, 16], [0, 1, 2, 3, 4, 5, 6, 7, 8, 9, 10, 11, 12, 13, 14, 15, 16, 17], [0, 1, 2, 3, 4, 5, 6, 7, 8, 9, 10, 11, 12, 13, 14, 15, 16, 17, 18], [0, 1, 2, 3, 4, 5, 6, 7, 8, 9, 10, 11, 12, 13, 14, 15, 16, 17, 18, 19], [0, 1, 2, 3, 4, 5, 6, 7, 8, 9, 10, 11, 12, 13, 14, 15, 16, 17, 18, 19, 20], [0, 1, 2, 3, 4, 5, 6, 7, 8, 9, 10, 11, 12, 13, 14, 15, 16, 17, 18, 19, 20, 21], [0, 1, 2, 3, 4, 5, 6, 7, 8, 9, 10, 11, 12, 13, 14, 15, 16, 17, 18, 19, 20, 21, 22], [0, 1, 2, 3, 4, 5, 6, 7, 8, 9, 10, 11, 12, 13, 14, 15, 16, 17, 18, 19, 20, 21, 22, 23], [0, 1, 2, 3, 4, 5, 6, 7, 8, 9, 10, 11, 12, 13, 14, 15, 16, 17, 18, 19, 20, 21, 22, 23, 24], [0, 1, 2, 3, 4, 5, 6, 7, 8, 9, 10, 11, 12, 13, 14, 15, 16, 17, 18, 19, 20, 21, 22, 23, 24, 25], [0, 1, 2, 3, 4, 5, 6, 7, 8, 9, 10, 11, 12, 13, 14, 15, 16, 17, 18, 19, 20, 21, 22, 23, 24, 25, 26], [0, 1, 2, 3, 4, 5, 6, 7, 8, 9, 10, 11, 12, 13, 14, 15, 16, 17, 18, 19, 20, 21, 22, 23, 24, 25, 26, 27]] [71, 72, 73, 74, 75, 76, 77, 78, 79, 80, 81, 82, 83, 84, 85, 86, 87, 88, 89, 90, 91, 92, 93, 94, 95, 96, 97, 98, 99])
  | exact shAR 20 (by exact i_S hT [[], [0], [0, 1], [0, 1, 2], [0, 1, 2], [0, 1, 2, 3, 4], [0, 1, 2], [0, 1, 2], [0, 1, 2, 6, 7], [0, 1, 2, 6, 7, 8], [0, 1, 2, 3, 4, 5, 6, 7, 8, 9], [0, 1, 2, 3, 4, 5, 6, 7, 8, 9, 10], [0, 1, 2, 3, 4, 5, 6, 7, 8, 9, 10, 11], [0, 1, 2, 3, 4, 5, 6, 7, 8, 9, 10, 11, 12], [0, 1, 2, 3, 4, 5, 6, 7, 8, 9, 10, 11, 12], [0, 1, 2, 3, 4, 5, 6, 7, 8, 9, 10, 11, 12, 14], [0, 1, 2, 3, 4, 5, 6, 7, 8, 9, 10, 11, 12, 14, 15], [0, 1, 2, 3, 4, 5, 6, 7, 8, 9, 10, 11, 12, 13, 14, 15, 16], [0, 1, 2, 3, 4, 5, 6, 7, 8, 9, 10, 11, 12, 13, 14, 15, 16, 17], [0, 1, 2, 3, 4, 5, 6, 7, 8, 9, 10, 11, 12, 13, 14, 15, 16, 17, 18], [0, 1, 2, 3, 4, 5, 6, 7, 8, 9, 10, 11, 12, 13, 14, 15, 16, 17, 18, 19], [0, 1, 2, 3, 4, 5, 6, 7, 8, 9, 10, 11, 12, 13, 14, 15, 16, 17, 18], [0, 1, 2, 3, 4, 5, 6, 7, 8, 9, 10, 11, 12, 13, 14, 15, 16, 17, 18, 19, 20, 21], [0, 1, 2, 3, 4, 5, 6, 7, 8, 9, 10, 11, 12, 13, 14, 15, 16, 17, 18, 19, 20, 21, 22], [0, 1, 2, 3, 4, 5, 6, 7, 8, 9, 10, 11, 12, 13, 14, 15, 16, 17, 18, 19, 20, 21, 22, 23], [0, 1, 2, 3, 4, 5, 6, 7, 8, 9, 10, 11, 12, 13, 14, 15, 16, 17, 18], [0, 1, 2, 3, 4, 5, 6, 7, 8, 9, 10, 11, 12, 13, 14, 15, 16, 17, 18, 25], [0, 1, 2, 3, 4, 5, 6, 7, 8, 9, 10, 11, 12, 13, 14, 15, 16, 17, 18, 19, 20, 21, 22, 23, 24, 25, 26], [0, 1, 2, 3, 4, 5, 6, 7, 8, 9, 10, 11, 12, 13, 14, 15, 16, 17, 18, 19, 20, 21, 22, 23, 24, 25, 26, 27], [0, 1, 2, 3, 4, 5, 6, 7, 8, 9, 10, 11, 12, 13, 14, 15, 16, 17, 18, 19, 20, 21, 22, 23, 24, 25, 26, 27, 28]] [132, 133, 134, 135, 136, 137, 138, 139, 140, 141, 142, 143, 144, 145, 146, 147, 148, 149, 150, 151, 152, 153, 154, 155, 156, 157, 158, 159, 160, 161])
  | exact shAR 15 (by exact i_T hT [[], [0], [0, 1], [], [3], [0, 1, 2, 3, 4], [0, 1, 2, 3, 4, 5]] 5 [114, 115, 116, 117, 118])
  | exact shAR 19 (by exact i_T hT [[], [], [], [1, 2], [1, 2, 3], [0, 1, 2, 3, 4], [0, 1, 2, 3, 4, 5]] 5 [126, 127, 128, 129, 130])
  | exact i1F
  | fail) : p := h k
theorem wFnSs16_0 {p : Prop} (h : p := by
  have E0 := @encRing.eq_1
  refine snd_b hT Tryz.func16 Tryz.results16 Tryz.ntmps16 ?_
  repeat' (first | ((with_reducible refine rest_go (by assumption) ?_); (rw [clr_eq]; rotate_left; rfl; simp only [keepB, go_sem, Nat.reduceBEq, Nat.reduceAdd, cond_true, cond_false, *]; simp only [clrG, Nat.reduceBEq, Nat.reduceAdd, cond_true, cond_false]); first | done | rfl) | refine sFnSs16F ?_ | (refine two ?_ ?_; all_goals (intro h; try simp only [Bool.not_eq_true', Bool.not_eq_false', reduceCtorEq] at h)) | fail)
  all_goals (simp only [go_sem, *]; first | done | rfl)) : p := h
theorem wFnSs16_1 {p : Prop} (h : p := by
  have E0 := @encRing.eq_1
  have E1 := @encSub.eq_1
  repeat' (first | ((with_reducible refine rest_go (by assumption) ?_); (rw [clr_eq]; rotate_left; rfl; simp only [keepB, go_sem, Nat.reduceBEq, Nat.reduceAdd, cond_true, cond_false, *]; simp only [clrG, Nat.reduceBEq, Nat.reduceAdd, cond_true, cond_false]); first | done | rfl) | refine sFnSs16F ?_ | (refine two ?_ ?_; all_goals (intro h; try simp only [Bool.not_eq_true', Bool.not_eq_false', reduceCtorEq] at h)) | fail)
  all_goals (simp only [go_sem, *]; first | done | rfl)) : p := h
-- KEPT

set_option maxHeartbeats 8000000 in
theorem c_spec_RingOk (r : RingV) {u : AV} (hu : u = encRing false r) (hr : okRing r) (h1 : r.line.length ≤ 1048576) (h2 : r.grants.length ≤ 1048576) (h3 : r.items.length ≤ 1048576) : Sound P 16 [u] (.bool (ringB r)) := by
  subst hu
  have hl : r.subs.length < 4611686018427387904 := hr.2.1.1
  rcases (by omega : ¬ (1 ≤ r.cap ∧ r.cap ≤ 16) ∨ ((1 ≤ r.cap ∧ r.cap ≤ 16) ∧ ¬ (0 ≤ r.sent ∧ r.sent ≤ 1000000000)) ∨ ((1 ≤ r.cap ∧ r.cap ≤ 16) ∧ (0 ≤ r.sent ∧ r.sent ≤ 1000000000) ∧ ¬ (0 ≤ r.next ∧ r.next ≤ 1000000000)) ∨ ((1 ≤ r.cap ∧ r.cap ≤ 16) ∧ (0 ≤ r.sent ∧ r.sent ≤ 1000000000) ∧ (0 ≤ r.next ∧ r.next ≤ 1000000000))) with hc | hc | hc | hc
  · have k1 : (decide (r.cap ≥ 1) && decide (r.cap ≤ 16)) = false := by rw [Bool.and_eq_false_iff]; simp only [decide_eq_false_iff_not]; omega
    have h6 : ringB r = false := by rw [ringB, k1]; simp only [Bool.false_and]
    rw [h6]
    exact wFnSs16_0
  · have k1 : (decide (r.cap ≥ 1) && decide (r.cap ≤ 16)) = true := by rw [Bool.and_eq_true]; simp only [decide_eq_true_eq]; omega
    have k2 : (decide (r.sent ≥ 0) && decide (r.sent ≤ 1000000000)) = false := by rw [Bool.and_eq_false_iff]; simp only [decide_eq_false_iff_not]; omega
    have h6 : ringB r = false := by rw [ringB, k2]; simp only [Bool.false_and, Bool.and_false]
    rw [h6]
    exact wFnSs16_0
  · have k1 : (decide (r.cap ≥ 1) && decide (r.cap ≤ 16)) = true := by rw [Bool.and_eq_true]; simp only [decide_eq_true_eq]; omega
    have k2 : (decide (r.sent ≥ 0) && decide (r.sent ≤ 1000000000)) = true := by rw [Bool.and_eq_true]; simp only [decide_eq_true_eq]; omega
    have k3 : (decide (r.next ≥ 0) && decide (r.next ≤ 1000000000)) = false := by rw [Bool.and_eq_false_iff]; simp only [decide_eq_false_iff_not]; omega
    have h6 : ringB r = false := by rw [ringB, k3]; simp only [Bool.false_and, Bool.and_false]
    rw [h6]
    exact wFnSs16_0
  have hcs := hc
  have k1 : (decide (r.cap ≥ 1) && decide (r.cap ≤ 16)) = true := by rw [Bool.and_eq_true]; simp only [decide_eq_true_eq]; omega
  have k2 : (decide (r.sent ≥ 0) && decide (r.sent ≤ 1000000000)) = true := by rw [Bool.and_eq_true]; simp only [decide_eq_true_eq]; omega
  have k3 : (decide (r.next ≥ 0) && decide (r.next ≤ 1000000000)) = true := by rw [Bool.and_eq_true]; simp only [decide_eq_true_eq]; omega
  have hb : r.sent ≤ 1000000000 := by omega
  have hnx1 : 0 ≤ r.next := by omega
  have hnx2 : r.next ≤ 1000000000 := by omega
  have ho1 : -9223372036854775808 ≤ r.sent - r.cap := by omega
  have ho2 : r.sent - r.cap ≤ 9223372036854775807 := by omega
  obtain ⟨o1, o2, o3⟩ := oldestI_in (r := r) (by omega) (by omega)
  have hwo : IntKind.i64.wrap (r.sent - oldestI r) = r.sent - oldestI r := by rw [wrap_small] <;> omega
  have hwl : IntKind.i64.wrap ((r.line.length : Int) + (r.grants.length : Int)) = (r.line.length : Int) + (r.grants.length : Int) := by rw [wrap_small] <;> omega
  rcases (by omega : 12 < r.subs.length ∨ (r.subs.length ≤ 12 ∧ 16 < r.items.length) ∨ (r.subs.length ≤ 12 ∧ r.items.length ≤ 16)) with h12 | h12 | h12
  · have k4 : decide ((r.subs.length : Int) > 12) = true := decide_eq_true (by omega)
    have h6 : ringB r = false := by rw [ringB, decide_eq_false (p := r.subs.length ≤ 12) (by omega)]; simp only [Bool.false_and, Bool.and_false]
    rw [h6]
    exact wFnSs16_0
  · have k4 : decide ((r.subs.length : Int) > 12) = false := decide_eq_false (by omega)
    have k5 : decide ((r.items.length : Int) > 16) = true := decide_eq_true (by omega)
    have hne : ((r.items.length : Int) == r.sent - oldestI r) = false := by rw [beq_eq_false_iff_ne]; omega
    have h6 : ringB r = false := by rw [ringB, hne]; simp only [Bool.false_and, Bool.and_false]
    rw [h6]
    clear hne
    exact wFnSs16_0
  have k4 : decide ((r.subs.length : Int) > 12) = false := decide_eq_false (by omega)
  have k5 : decide ((r.items.length : Int) > 16) = false := decide_eq_false (by omega)
  have hpre : ringB r = (allTo (subsQ r) r.subs.length && r.items.all msgB && ((r.items.length : Int) == r.sent - oldestI r) && waitB r) := by
    rw [ringB, k1, k2, k3, decide_eq_true h12.1]; rfl
  rw [hpre]
  clear hpre
  have hp3 := ringOk3 r hr h1 h2 h3 hcs.1 hcs.2.1 h12.1 (rfl : Tryz.f16.body = some _) (ringOk4 r hr h3 rfl (ringOk5 r hr h1 h2 rfl))
  dsimp only [cnth, csnd] at hp3
  refine snd_b hT Tryz.func16 Tryz.results16 Tryz.ntmps16 ?_
  (all_goals (have E0 := @encRing.eq_1))
  repeat' (first | ((with_reducible refine rest_go (by assumption) ?_); (rw [clr_eq]; rotate_left; rfl; simp only [keepB, go_sem, Nat.reduceBEq, Nat.reduceAdd, cond_true, cond_false, *]; simp only [clrG, Nat.reduceBEq, Nat.reduceAdd, cond_true, cond_false]); first | done | rfl) | refine sFnSs16F ?_ | (refine two ?_ ?_; all_goals (intro h; try simp only [Bool.not_eq_true', Bool.not_eq_false', reduceCtorEq] at h)) | fail)
  all_goals (try clear E0)
  refine aw_loop [4, 5, 6, 7, 8, 9, 10, 11, 12, 13, 14, 15, 16, 17, 18, 19, 20, 21, 22, 23, 24, 25, 26, 27, 28, 29, 30, 31, 32, 33, 34, 35, 36, 37, 38, 39, 40, 41, 42, 43, 44, 45, 46, 47, 48, 49, 50, 51, 52, 53, 54, 55, 56, 57, 58, 59, 60, 61, 62, 63, 64, 65, 66, 67, 68, 69, 70, 71, 72, 73, 74, 75, 76, 77, 78, 79, 80, 81, 82, 83, 84, 85, 86, 87, 88, 89, 90, 91, 92, 93, 94, 95, 96, 97, 98, 99, 100, 101, 102, 103, 104, 105, 106, 107, 108, 109, 110, 111, 112, 113, 114, 115, 116, 117, 118, 119, 120, 121, 122, 123, 124, 125, 126, 127, 128, 129, 130, 131, 132, 133, 134, 135, 136, 137, 138, 139, 140, 141, 142, 143, 144, 145, 146, 147, 148, 149, 150, 151, 152, 153, 154, 155, 156, 157, 158, 159, 160, 161] (fun n S => ∃ i : Nat, n = r.subs.length - i ∧ i ≤ r.subs.length ∧ allTo (subsQ r) i = true ∧ S = [encRing false r, .box (encRing false r), .bool false, .int .i64 i, .undef, .undef, .undef, .undef, .undef, .undef, .undef, .undef, .undef, .undef, .undef, .undef, .undef, .undef, .undef, .undef, .undef, .undef, .undef, .undef, .undef, .undef, .undef, .undef, .undef, .undef, .undef, .undef, .undef, .undef, .undef, .undef, .undef, .undef, .undef, .undef, .undef, .undef, .undef, .undef, .undef, .undef, .undef, .undef, .undef, .undef, .undef, .undef, .undef, .undef, .undef, .undef, .undef, .undef, .undef, .undef, .undef, .undef, .undef, .undef, .undef, .undef, .undef, .undef, .undef, .undef, .undef, .undef, .undef, .undef, .undef, .undef, .undef, .undef, .undef, .undef, .undef, .undef, .undef, .undef, .undef, .undef, .undef, .undef, .undef, .undef, .undef, .undef, .undef, .undef, .undef, .undef, .undef, .undef, .undef, .undef, .undef, .undef, .undef, .undef, .undef, .undef, .undef, .undef, .undef, .undef, .undef, .undef, .undef, .undef, .undef, .undef, .undef, .undef, .undef, .undef, .undef, .undef, .undef, .undef, .undef, .undef, .undef, .undef, .undef, .undef, .undef, .undef, .undef, .undef, .undef, .undef, .undef, .undef, .undef, .undef, .undef, .undef, .undef, .undef, .undef, .undef, .undef, .undef, .undef, .undef, .undef, .undef, .undef, .undef, .undef, .undef, .undef, .undef, .undef, .undef, .undef, .undef]) r.subs.length ?_ ?_
  · refine ⟨0, by simp, by omega, rfl, ?_⟩
    (rw [clr_eq]; rotate_left; rfl; simp only [keepB, go_sem, Nat.reduceBEq, Nat.reduceAdd, cond_true, cond_false, *]; simp only [clrG, Nat.reduceBEq, Nat.reduceAdd, cond_true, cond_false])
    first | done | rfl
  rintro n S ⟨i, hn, hi, ha, rfl⟩
  have hwi : IntKind.i64.wrap ((i : Int) + 1) = ((i + 1 : Nat) : Int) := by rw [wrap_small] <;> omega
  by_cases hlt : i < r.subs.length
  · have hd : decide ((i : Int) < (r.subs.length : Int)) = true := by simp [hlt]
    obtain ⟨s, hsi⟩ : ∃ s, r.subs[i]? = some s := ⟨r.subs[i], by simp [hlt]⟩
    have hs : okSub s := hr.2.1.2 s (List.mem_of_getElem? hsi)
    have hq : subsQ r i = ((decide (s.id ≥ 0) && decide (s.id ≤ r.next - 1)) && subB r s && (decide (i = 0) || match r.subs[i - 1]? with | some q => decide (q.id < s.id) | none => true)) := by
      simp only [subsQ, hsi]; rfl
    cases hB : ((decide (s.id ≥ 0) && decide (s.id ≤ r.next - 1)) && subB r s)
    · have hf : allTo (subsQ r) r.subs.length = false := allTo_not hlt (by rw [hq, hB]; rfl)
      rw [hf]
      clear hq
      exact wFnSs16_1
    · rw [hB, Bool.true_and] at hq
      by_cases hi0 : i = 0
      · have hgt : decide ((i : Int) > 0) = false := by simp [hi0]
        rw [decide_eq_true hi0, Bool.true_or] at hq
        clear hi0
        (all_goals (have E0 := @encRing.eq_1))
        (all_goals (have E1 := @encSub.eq_1))
        repeat' (first | ((with_reducible refine rest_go (by assumption) ?_); (rw [clr_eq]; rotate_left; rfl; simp only [keepB, go_sem, Nat.reduceBEq, Nat.reduceAdd, cond_true, cond_false, *]; simp only [clrG, Nat.reduceBEq, Nat.reduceAdd, cond_true, cond_false]); first | done | rfl) | refine sFnSs16F ?_ | (refine two ?_ ?_; all_goals (intro h; try simp only [Bool.not_eq_true', Bool.not_eq_false', reduceCtorEq] at h)) | fail)
        all_goals (try clear E0 E1)
        all_goals (
          refine ⟨r.subs.length - (i + 1), by omega, i + 1, rfl, by omega, by rw [allTo_succ, ha, hq]; rfl, ?_⟩
          (rw [clr_eq]; rotate_left; rfl; simp only [keepB, go_sem, Nat.reduceBEq, Nat.reduceAdd, cond_true, cond_false, *]; simp only [clrG, Nat.reduceBEq, Nat.reduceAdd, cond_true, cond_false])
          first | done | rfl)
      · have hgt : decide ((i : Int) > 0) = true := by simp; omega
        have hwm : IntKind.i64.wrap ((i : Int) - 1) = ((i - 1 : Nat) : Int) := by rw [wrap_small] <;> omega
        obtain ⟨q, hqi⟩ : ∃ q, r.subs[i - 1]? = some q := ⟨r.subs[i - 1]'(by omega), List.getElem?_eq_getElem _⟩
        rw [decide_eq_false hi0, hqi, Bool.false_or] at hq
        simp only at hq
        have hi1 : (0 : Int) ≤ ((i - 1 : Nat) : Int) := by omega
        have hi2 : ((i - 1 : Nat) : Int) < (r.subs.length : Int) := by omega
        cases hP : decide (q.id ≥ s.id)
        · have hP2 : decide (q.id < s.id) = true := by simp only [decide_eq_false_iff_not, decide_eq_true_eq] at *; omega
          rw [hP2] at hq
          (all_goals (have E0 := @encRing.eq_1))
          (all_goals (have E1 := @encSub.eq_1))
          repeat' (first | ((with_reducible refine rest_go (by assumption) ?_); (rw [clr_eq]; rotate_left; rfl; simp only [keepB, go_sem, Nat.reduceBEq, Nat.reduceAdd, cond_true, cond_false, *]; simp only [clrG, Nat.reduceBEq, Nat.reduceAdd, cond_true, cond_false]); first | done | rfl) | refine sFnSs16F ?_ | (refine two ?_ ?_; all_goals (intro h; try simp only [Bool.not_eq_true', Bool.not_eq_false', reduceCtorEq] at h)) | fail)
          all_goals (try clear E0 E1)
          all_goals (
            refine ⟨r.subs.length - (i + 1), by omega, i + 1, rfl, by omega, by rw [allTo_succ, ha, hq]; rfl, ?_⟩
            (rw [clr_eq]; rotate_left; rfl; simp only [keepB, go_sem, Nat.reduceBEq, Nat.reduceAdd, cond_true, cond_false, *]; simp only [clrG, Nat.reduceBEq, Nat.reduceAdd, cond_true, cond_false])
            first | done | rfl)
        · have hP2 : decide (q.id < s.id) = false := by simp only [decide_eq_false_iff_not, decide_eq_true_eq] at *; omega
          rw [hP2] at hq
          have hf : allTo (subsQ r) r.subs.length = false := allTo_not hlt hq
          rw [hf]
          clear hq
          exact wFnSs16_1
  have hd : decide ((i : Int) < (r.subs.length : Int)) = false := by simp; omega
  have e : i = r.subs.length := by omega
  have hf : allTo (subsQ r) r.subs.length = true := by rw [← e]; exact ha
  clear e
  rw [hf]
  (all_goals (have E0 := @encRing.eq_1))
  repeat' (first | ((with_reducible refine rest_go (by assumption) ?_); (rw [clr_eq]; rotate_left; rfl; simp only [keepB, go_sem, Nat.reduceBEq, Nat.reduceAdd, cond_true, cond_false, *]; simp only [clrG, Nat.reduceBEq, Nat.reduceAdd, cond_true, cond_false]); first | done | rfl) | refine sFnSs16F ?_ | (refine two ?_ ?_; all_goals (intro h; try simp only [Bool.not_eq_true', Bool.not_eq_false', reduceCtorEq] at h)) | fail)
  all_goals (try clear E0)
noncomputable abbrev ic_spec_RingOk := Con.mk (P := P) (f := 16) Tryz.call16 @c_spec_RingOk
attribute [instance] ic_spec_RingOk
end Go.Proofs.YtlgdijjkegeccaaGreat
